/- The tables that the rows lay. -/
import Derived.Test.YtphpkalbbmlgoaaGreatDoorTabG
namespace Go.Proofs.YtphpkalbbmlgoaaGreatDoor
open Go.ChangeShapes Go.WideShapes Go.ChangeAt Go.RowKit Go.WideMaps Go.WideElems

def tBlakeInitial : TabD := ⟨1, 734, .u32, [1779033703, 3144134277, 1013904242, 2773480762, 1359893119, 2600822924, 528734635, 1541459225]⟩

theorem tBlakeInitial_laid {H : Type} : (Rows.laid_bandplan_blake_initial : DataW H) = .agg (tBlakeInitial.l.map (fun n => .lit (.int .u32 n))) := rfl

theorem tBlakeInitial_g : Tryz.prog.globalNamed "bandplan/blake.initial" = some 1 := by kernel_rfl

theorem tBlakeInitial_t : (Tryz.prog.globals[1]?).map (·.type) = some 734 := by kernel_rfl

theorem tBlakeInitial_lt : tBlakeInitial.b < nG := of_decide_eq_true (by kernel_rfl)

theorem tBlakeInitial_sh : (((begin Tryz.prog (fun _ _ => 0) default).world.heap[tBlakeInitial.b]?).bind Obj.row?).map (fun y => y.2) = some tBlakeInitial.t := by kernel_rfl

theorem tBlakeInitial_of {W : World} {f : Nat} {ps : List MemPlace} {cs : Array Value} (hs : W.ShapedOpen Tryz.prog) (hv : World.var? Tryz.prog W "bandplan/blake.initial" = some cs) (hd : DataW.trod (fun _ => ()) Tryz.prog W 0 (fun _ => true) false f 734 cs.toList = some (Rows.laid_bandplan_blake_initial, ps)) : TabG W tBlakeInitial := by
  rw [tBlakeInitial_laid] at hd
  exact tabG_of tBlakeInitial_g tBlakeInitial_lt tBlakeInitial_sh hs hv (nums_of (l := tBlakeInitial.l) Tryz.underlying734 Tryz.underlying496 (by kernel_rfl) (by kernel_rfl) rfl hd)

def tScoreWorths : TabD := ⟨2, 778, .i64, [0, 250, 600, 1000]⟩

theorem tScoreWorths_laid {H : Type} : (Rows.laid_bandplan_score_worths : DataW H) = .agg (tScoreWorths.l.map (fun n => .lit (.int .i64 n))) := rfl

theorem tScoreWorths_g : Tryz.prog.globalNamed "bandplan/score.worths" = some 2 := by kernel_rfl

theorem tScoreWorths_t : (Tryz.prog.globals[2]?).map (·.type) = some 778 := by kernel_rfl

theorem tScoreWorths_lt : tScoreWorths.b < nG := of_decide_eq_true (by kernel_rfl)

theorem tScoreWorths_sh : (((begin Tryz.prog (fun _ _ => 0) default).world.heap[tScoreWorths.b]?).bind Obj.row?).map (fun y => y.2) = some tScoreWorths.t := by kernel_rfl

theorem tScoreWorths_of {W : World} {f : Nat} {ps : List MemPlace} {cs : Array Value} (hs : W.ShapedOpen Tryz.prog) (hv : World.var? Tryz.prog W "bandplan/score.worths" = some cs) (hd : DataW.trod (fun _ => ()) Tryz.prog W 0 (fun _ => true) false f 778 cs.toList = some (Rows.laid_bandplan_score_worths, ps)) : TabG W tScoreWorths := by
  rw [tScoreWorths_laid] at hd
  exact tabG_of tScoreWorths_g tScoreWorths_lt tScoreWorths_sh hs hv (nums_of (l := tScoreWorths.l) Tryz.underlying778 Tryz.underlying3 (by kernel_rfl) (by kernel_rfl) rfl hd)

def tBlakeOrderL : List (List Int) := [[0, 1, 2, 3, 4, 5, 6, 7, 8, 9, 10, 11, 12, 13, 14, 15], [14, 10, 4, 8, 9, 15, 13, 6, 1, 12, 0, 2, 11, 7, 5, 3], [11, 8, 12, 0, 5, 2, 15, 13, 10, 14, 3, 6, 7, 1, 9, 4], [7, 9, 3, 1, 13, 12, 11, 14, 2, 6, 5, 10, 4, 0, 15, 8], [9, 0, 5, 7, 2, 4, 10, 15, 14, 1, 11, 12, 6, 8, 3, 13], [2, 12, 6, 10, 0, 11, 8, 3, 4, 13, 7, 5, 15, 14, 1, 9], [12, 5, 1, 15, 14, 13, 4, 10, 0, 7, 6, 3, 9, 2, 8, 11], [13, 11, 7, 14, 12, 1, 3, 9, 5, 0, 15, 4, 8, 6, 2, 10], [6, 15, 14, 9, 11, 3, 0, 8, 12, 2, 13, 7, 1, 4, 10, 5], [10, 2, 8, 4, 7, 6, 1, 5, 15, 11, 9, 14, 3, 12, 13, 0]]

def tBlakeOrder : TabD := ⟨3, 801, .u8, tBlakeOrderL.flatten⟩

theorem tBlakeOrder_laid {H : Type} : (Rows.laid_bandplan_blake_order : DataW H) = .agg (tBlakeOrderL.map (fun l => .agg (l.map (fun n => .lit (.int .u8 n))))) := rfl

theorem tBlakeOrder_g : Tryz.prog.globalNamed "bandplan/blake.order" = some 3 := by kernel_rfl

theorem tBlakeOrder_t : (Tryz.prog.globals[3]?).map (·.type) = some 801 := by kernel_rfl

theorem tBlakeOrder_lt : tBlakeOrder.b < nG := of_decide_eq_true (by kernel_rfl)

theorem tBlakeOrder_sh : (((begin Tryz.prog (fun _ _ => 0) default).world.heap[tBlakeOrder.b]?).bind Obj.row?).map (fun y => y.2) = some tBlakeOrder.t := by kernel_rfl

theorem tBlakeOrder_of {W : World} {f : Nat} {ps : List MemPlace} {cs : Array Value} (hs : W.ShapedOpen Tryz.prog) (hv : World.var? Tryz.prog W "bandplan/blake.order" = some cs) (hd : DataW.trod (fun _ => ()) Tryz.prog W 0 (fun _ => true) false f 801 cs.toList = some (Rows.laid_bandplan_blake_order, ps)) : TabG W tBlakeOrder := by
  rw [tBlakeOrder_laid] at hd
  exact tabG_of tBlakeOrder_g tBlakeOrder_lt tBlakeOrder_sh hs hv (rows_of (L := tBlakeOrderL) Tryz.underlying801 Tryz.underlying800 Tryz.underlying5 (by kernel_rfl) (by kernel_rfl) (by kernel_rfl) rfl (by decide) hd)

def tBitsDebruijn64Tab : TabD := ⟨4, 735, .u8, [0, 1, 56, 2, 57, 49, 28, 3, 61, 58, 42, 50, 38, 29, 17, 4, 62, 47, 59, 36, 45, 43, 51, 22, 53, 39, 33, 30, 24, 18, 12, 5, 63, 55, 48, 27, 60, 41, 37, 16, 46, 35, 44, 21, 52, 32, 23, 11, 54, 26, 40, 15, 34, 20, 31, 10, 25, 14, 19, 9, 13, 8, 7, 6]⟩

theorem tBitsDebruijn64Tab_laid {H : Type} : (Rows.laid_math_bits_deBruijn64tab : DataW H) = .agg (tBitsDebruijn64Tab.l.map (fun n => .lit (.int .u8 n))) := rfl

theorem tBitsDebruijn64Tab_g : Tryz.prog.globalNamed "math/bits.deBruijn64tab" = some 4 := by kernel_rfl

theorem tBitsDebruijn64Tab_t : (Tryz.prog.globals[4]?).map (·.type) = some 735 := by kernel_rfl

theorem tBitsDebruijn64Tab_lt : tBitsDebruijn64Tab.b < nG := of_decide_eq_true (by kernel_rfl)

theorem tBitsDebruijn64Tab_sh : (((begin Tryz.prog (fun _ _ => 0) default).world.heap[tBitsDebruijn64Tab.b]?).bind Obj.row?).map (fun y => y.2) = some tBitsDebruijn64Tab.t := by kernel_rfl

theorem tBitsDebruijn64Tab_of {W : World} {f : Nat} {ps : List MemPlace} {cs : Array Value} (hs : W.ShapedOpen Tryz.prog) (hv : World.var? Tryz.prog W "math/bits.deBruijn64tab" = some cs) (hd : DataW.trod (fun _ => ()) Tryz.prog W 0 (fun _ => true) false f 735 cs.toList = some (Rows.laid_math_bits_deBruijn64tab, ps)) : TabG W tBitsDebruijn64Tab := by
  rw [tBitsDebruijn64Tab_laid] at hd
  exact tabG_of tBitsDebruijn64Tab_g tBitsDebruijn64Tab_lt tBitsDebruijn64Tab_sh hs hv (nums_of (l := tBitsDebruijn64Tab.l) Tryz.underlying735 Tryz.underlying5 (by kernel_rfl) (by kernel_rfl) rfl hd)

def tabs : List TabD := [tBlakeInitial, tScoreWorths, tBlakeOrder, tBitsDebruijn64Tab]

theorem tabs_lt : ∀ x ∈ tabs, x.b < nG := by
  intro x hx
  simp only [tabs, List.mem_cons, List.not_mem_nil, or_false] at hx
  rcases hx with rfl | rfl | rfl | rfl
  · exact tBlakeInitial_lt
  · exact tScoreWorths_lt
  · exact tBlakeOrder_lt
  · exact tBitsDebruijn64Tab_lt

end Go.Proofs.YtphpkalbbmlgoaaGreatDoor
