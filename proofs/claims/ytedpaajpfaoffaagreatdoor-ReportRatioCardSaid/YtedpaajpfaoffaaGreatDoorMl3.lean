/- Part of ReportRatio. -/
import Derived.Test.YtedpaajpfaoffaaGreatDoorRows
import Derived.Test.YtedpaajpfaoffaaGreatDoorMl2
import Derived.Lay
import Derived.Shelf.Vars
import Derived.LaidMore
import Derived.Stop.Joined
set_option maxRecDepth 1000000
namespace Go.Proofs.YtedpaajpfaoffaaGreatDoor
open Go.ChangeShapes Go.WideShapes Go.ChangeAt Go.RowKit Go.WideMaps Go.WideElems
abbrev laid52 : List (String × DataW Unit) := [("math/bits.deBruijn32tab", Rows.laid_math_bits_deBruijn32tab), ("math/bits.deBruijn64tab", Rows.laid_math_bits_deBruijn64tab), ("internal/strconv.uint64pow10", Rows.laid_internal_strconv_uint64pow10), ("unicode/utf8.acceptRanges", Rows.laid_unicode_utf8_acceptRanges), ("strconv.ErrRange", Rows.laid_strconv_ErrRange), ("strconv.ErrSyntax", Rows.laid_strconv_ErrSyntax), ("bandplan/report.phases", Rows.laid_bandplan_report_phases), ("bandplan/report.kinds", Rows.laid_bandplan_report_kinds), ("bandplan/report.options", Rows.laid_bandplan_report_options), ("unicode/utf8.first", Rows.laid_unicode_utf8_first)]
theorem t32_g : Tryz.prog.globalNamed "math/bits.deBruijn32tab" = some 9 := by kernel_rfl
theorem t32_t : (Tryz.prog.globals[9]?).map (·.type) = some 247 := by kernel_rfl
theorem t32_sh : (((begin Tryz.prog (fun _ _ => 0) default).world.heap[t32.b]?).bind Obj.row?).map (fun y => y.2) = some t32.t := by kernel_rfl
theorem t32_lt : t32.b < nG := of_decide_eq_true (by kernel_rfl)
theorem t32_of {W : World} {f : Nat} {ps : List MemPlace} {cs : Array Value} (hs : W.ShapedOpen Tryz.prog) (hv : World.var? Tryz.prog W "math/bits.deBruijn32tab" = some cs) (hd : DataW.trod (fun _ => ()) Tryz.prog W 0 (fun _ => true) false f 247 cs.toList = some (Rows.laid_math_bits_deBruijn32tab, ps)) : TabG W t32 :=
  tabG_of t32_g t32_lt t32_sh hs hv (nums_of (k := .u8) (l := ([0, 1, 28, 2, 29, 14, 24, 3, 30, 22, 20, 15, 25, 17, 4, 8, 31, 27, 13, 23, 21, 19, 16, 7, 26, 12, 18, 6, 11, 5, 10, 9] : List Int)) Tryz.underlying247 Tryz.underlying5 (by kernel_rfl) (by kernel_rfl) rfl hd)
theorem t64_g : Tryz.prog.globalNamed "math/bits.deBruijn64tab" = some 10 := by kernel_rfl
theorem t64_t : (Tryz.prog.globals[10]?).map (·.type) = some 248 := by kernel_rfl
theorem t64_sh : (((begin Tryz.prog (fun _ _ => 0) default).world.heap[t64.b]?).bind Obj.row?).map (fun y => y.2) = some t64.t := by kernel_rfl
theorem t64_lt : t64.b < nG := of_decide_eq_true (by kernel_rfl)
theorem t64_of {W : World} {f : Nat} {ps : List MemPlace} {cs : Array Value} (hs : W.ShapedOpen Tryz.prog) (hv : World.var? Tryz.prog W "math/bits.deBruijn64tab" = some cs) (hd : DataW.trod (fun _ => ()) Tryz.prog W 0 (fun _ => true) false f 248 cs.toList = some (Rows.laid_math_bits_deBruijn64tab, ps)) : TabG W t64 :=
  tabG_of t64_g t64_lt t64_sh hs hv (nums_of (k := .u8) (l := ([0, 1, 56, 2, 57, 49, 28, 3, 61, 58, 42, 50, 38, 29, 17, 4, 62, 47, 59, 36, 45, 43, 51, 22, 53, 39, 33, 30, 24, 18, 12, 5, 63, 55, 48, 27, 60, 41, 37, 16, 46, 35, 44, 21, 52, 32, 23, 11, 54, 26, 40, 15, 34, 20, 31, 10, 25, 14, 19, 9, 13, 8, 7, 6] : List Int)) Tryz.underlying248 Tryz.underlying5 (by kernel_rfl) (by kernel_rfl) rfl hd)
theorem tPow_g : Tryz.prog.globalNamed "internal/strconv.uint64pow10" = some 5 := by kernel_rfl
theorem tPow_t : (Tryz.prog.globals[5]?).map (·.type) = some 233 := by kernel_rfl
theorem tPow_sh : (((begin Tryz.prog (fun _ _ => 0) default).world.heap[tPow.b]?).bind Obj.row?).map (fun y => y.2) = some tPow.t := by kernel_rfl
theorem tPow_lt : tPow.b < nG := of_decide_eq_true (by kernel_rfl)
theorem tPow_of {W : World} {f : Nat} {ps : List MemPlace} {cs : Array Value} (hs : W.ShapedOpen Tryz.prog) (hv : World.var? Tryz.prog W "internal/strconv.uint64pow10" = some cs) (hd : DataW.trod (fun _ => ()) Tryz.prog W 0 (fun _ => true) false f 233 cs.toList = some (Rows.laid_internal_strconv_uint64pow10, ps)) : TabG W tPow :=
  tabG_of tPow_g tPow_lt tPow_sh hs hv (nums_of (k := .u64) (l := (Lib.pow10Tab : List Int)) Tryz.underlying233 Tryz.underlying142 (by kernel_rfl) (by kernel_rfl) rfl hd)
theorem tPhases_g : Tryz.prog.globalNamed "bandplan/report.phases" = some 0 := by kernel_rfl
theorem tPhases_t : (Tryz.prog.globals[0]?).map (·.type) = some 76 := by kernel_rfl
theorem tPhases_sh : (((begin Tryz.prog (fun _ _ => 0) default).world.heap[tPhases.b]?).bind Obj.row?).map (fun y => y.2) = some tPhases.t := by kernel_rfl
theorem tPhases_lt : tPhases.b < nG := of_decide_eq_true (by kernel_rfl)
theorem tPhases_of {W : World} {f : Nat} {ps : List MemPlace} {cs : Array Value} (hs : W.ShapedOpen Tryz.prog) (hv : World.var? Tryz.prog W "bandplan/report.phases" = some cs) (hd : DataW.trod (fun _ => ()) Tryz.prog W 0 (fun _ => true) false f 76 cs.toList = some (Rows.laid_bandplan_report_phases, ps)) : TabG W tPhases :=
  tabG_of tPhases_g tPhases_lt tPhases_sh hs hv (texts_of (l := ([[114, 101, 118, 101, 114, 115, 101], [102, 111, 114, 119, 97, 114, 100], [97, 115, 115, 105, 103, 110], [115, 111, 108, 100], [102, 97, 105, 108, 101, 100]] : List (List UInt8))) Tryz.underlying76 Tryz.underlying9 (by kernel_rfl) (by kernel_rfl) rfl hd)
theorem tKinds_g : Tryz.prog.globalNamed "bandplan/report.kinds" = some 1 := by kernel_rfl
theorem tKinds_t : (Tryz.prog.globals[1]?).map (·.type) = some 144 := by kernel_rfl
theorem tKinds_sh : (((begin Tryz.prog (fun _ _ => 0) default).world.heap[tKinds.b]?).bind Obj.row?).map (fun y => y.2) = some tKinds.t := by kernel_rfl
theorem tKinds_lt : tKinds.b < nG := of_decide_eq_true (by kernel_rfl)
theorem tKinds_of {W : World} {f : Nat} {ps : List MemPlace} {cs : Array Value} (hs : W.ShapedOpen Tryz.prog) (hv : World.var? Tryz.prog W "bandplan/report.kinds" = some cs) (hd : DataW.trod (fun _ => ()) Tryz.prog W 0 (fun _ => true) false f 144 cs.toList = some (Rows.laid_bandplan_report_kinds, ps)) : TabG W tKinds :=
  tabG_of tKinds_g tKinds_lt tKinds_sh hs hv (texts_of (l := ([[115, 116, 97, 121], [109, 111, 118, 101], [101, 120, 105, 116], [102, 114, 101, 101, 122, 101]] : List (List UInt8))) Tryz.underlying144 Tryz.underlying9 (by kernel_rfl) (by kernel_rfl) rfl hd)
theorem tOptions_g : Tryz.prog.globalNamed "bandplan/report.options" = some 2 := by kernel_rfl
theorem tOptions_t : (Tryz.prog.globals[2]?).map (·.type) = some 144 := by kernel_rfl
theorem tOptions_sh : (((begin Tryz.prog (fun _ _ => 0) default).world.heap[tOptions.b]?).bind Obj.row?).map (fun y => y.2) = some tOptions.t := by kernel_rfl
theorem tOptions_lt : tOptions.b < nG := of_decide_eq_true (by kernel_rfl)
theorem tOptions_of {W : World} {f : Nat} {ps : List MemPlace} {cs : Array Value} (hs : W.ShapedOpen Tryz.prog) (hv : World.var? Tryz.prog W "bandplan/report.options" = some cs) (hd : DataW.trod (fun _ => ()) Tryz.prog W 0 (fun _ => true) false f 144 cs.toList = some (Rows.laid_bandplan_report_options, ps)) : TabG W tOptions :=
  tabG_of tOptions_g tOptions_lt tOptions_sh hs hv (texts_of (l := ([[111, 102, 102], [108, 111, 119], [104, 105, 103, 104], [117, 104, 102]] : List (List UInt8))) Tryz.underlying144 Tryz.underlying9 (by kernel_rfl) (by kernel_rfl) rfl hd)
theorem tMax_of {W : World} (hs : W.ShapedOpen Tryz.prog) : ∃ m, TabG W (tMaxD m) := by
  have hz : ((begin Tryz.prog (fun _ _ => 0) default).world.heap[6]?).bind Obj.row? = some (#[.int .i64 0], 3) := by kernel_rfl
  have hlt : 6 < Tryz.prog.globals.size := of_decide_eq_true (by kernel_rfl)
  obtain ⟨m, hm⟩ := cell_of_shapedOpen_int hs hlt hz rfl (by kernel_rfl) (by kernel_rfl) Tryz.underlying3
  obtain ⟨cs, hcs, hsz, _⟩ := hs.1 _ _ _ hlt hz
  refine ⟨m, ?_⟩
  have h0 := cell_of_row W 6 0 _ _ (0, 0) hcs
  rw [hm] at h0
  have hc : cs = #[Value.int .i64 m] := by
    apply Array.ext
    · rw [hsz]; rfl
    · intro i h1 h2
      have : i = 0 := by simp at h2; omega
      subst this
      rw [Array.getElem?_eq_getElem h1] at h0
      exact (Option.some.inj h0).symm
  rw [hc] at hcs
  exact hcs
theorem err_of {W : World} {name : String} {g f : Nat} {d : DataW Unit} {nm : String} {ps : List MemPlace} {cs : Array Value} (hg : Tryz.prog.globalNamed name = some g) (hv : World.var? Tryz.prog W name = some cs) (hd : DataW.trod (fun _ => ()) Tryz.prog W 0 (fun _ => true) false f 107 cs.toList = some (.iface nm d, ps)) :
    ∃ ev, W.cell? ⟨g, 0, none⟩ = some ev ∧ (ev = .nilIface ∨ ∃ te pe, ev = .iface te pe) := by
  obtain ⟨_, u, v, hc, _, _⟩ := iface_of_trod Tryz.underlying107 hd
  refine ⟨.iface u v, ?_, .inr ⟨u, v, rfl⟩⟩
  rw [World.var?_cell hg hv 0, ← Array.getElem?_toList, hc]
  rfl
theorem syn_g : Tryz.prog.globalNamed "strconv.ErrSyntax" = some 3 := by kernel_rfl
theorem syn_t : (Tryz.prog.globals[3]?).map (·.type) = some 107 := by kernel_rfl
theorem ran_g : Tryz.prog.globalNamed "strconv.ErrRange" = some 4 := by kernel_rfl
theorem ran_t : (Tryz.prog.globals[4]?).map (·.type) = some 107 := by kernel_rfl
def W52 (W : World) : Prop := (∃ m, TabsG W (tMaxD m :: tK52)) ∧ (∃ ev, W.cell? ⟨3, 0, none⟩ = some ev ∧ (ev = .nilIface ∨ ∃ te pe, ev = .iface te pe)) ∧ ∃ ev, W.cell? ⟨4, 0, none⟩ = some ev ∧ (ev = .nilIface ∨ ∃ te pe, ev = .iface te pe)
theorem w52_of {W : World} (h : laidMetH Tryz.prog laid52 W) (hs : W.ShapedOpen Tryz.prog) : W52 W := by
  rw [MakeChecks.laidMetH_plain _ _ _ (by kernel_rfl)] at h
  obtain ⟨ps, r0, _, _⟩ := h
  obtain ⟨g0, t0, cs0, f0, p0, q0, hg0, ht0, hv0, hd0, r1, _⟩ := r0
  obtain ⟨g1, t1, cs1, f1, p1, q1, hg1, ht1, hv1, hd1, r2, _⟩ := r1
  obtain ⟨g2, t2, cs2, f2, p2, q2, hg2, ht2, hv2, hd2, r3, _⟩ := r2
  obtain ⟨g3, t3, cs3, f3, p3, q3, hg3, ht3, hv3, hd3, r4, _⟩ := r3
  obtain ⟨g4, t4, cs4, f4, p4, q4, hg4, ht4, hv4, hd4, r5, _⟩ := r4
  obtain ⟨g5, t5, cs5, f5, p5, q5, hg5, ht5, hv5, hd5, r6, _⟩ := r5
  obtain ⟨g6, t6, cs6, f6, p6, q6, hg6, ht6, hv6, hd6, r7, _⟩ := r6
  obtain ⟨g7, t7, cs7, f7, p7, q7, hg7, ht7, hv7, hd7, r8, _⟩ := r7
  obtain ⟨g8, t8, cs8, f8, p8, q8, hg8, ht8, hv8, hd8, r9, _⟩ := r8
  obtain rfl := Option.some.inj (t32_g.symm.trans hg0)
  obtain rfl := Option.some.inj (t32_t.symm.trans ht0)
  obtain rfl := Option.some.inj (t64_g.symm.trans hg1)
  obtain rfl := Option.some.inj (t64_t.symm.trans ht1)
  obtain rfl := Option.some.inj (tPow_g.symm.trans hg2)
  obtain rfl := Option.some.inj (tPow_t.symm.trans ht2)
  obtain rfl := Option.some.inj (ran_g.symm.trans hg4)
  obtain rfl := Option.some.inj (ran_t.symm.trans ht4)
  obtain rfl := Option.some.inj (syn_g.symm.trans hg5)
  obtain rfl := Option.some.inj (syn_t.symm.trans ht5)
  obtain rfl := Option.some.inj (tPhases_g.symm.trans hg6)
  obtain rfl := Option.some.inj (tPhases_t.symm.trans ht6)
  obtain rfl := Option.some.inj (tKinds_g.symm.trans hg7)
  obtain rfl := Option.some.inj (tKinds_t.symm.trans ht7)
  obtain rfl := Option.some.inj (tOptions_g.symm.trans hg8)
  obtain rfl := Option.some.inj (tOptions_t.symm.trans ht8)
  obtain ⟨m, hm⟩ := tMax_of hs
  refine ⟨⟨m, fun x hx => ?_⟩, err_of syn_g hv5 hd5, err_of ran_g hv4 hd4⟩
  simp only [tK52, List.mem_cons, List.not_mem_nil, or_false] at hx
  rcases hx with rfl | rfl | rfl | rfl | rfl | rfl | rfl
  · exact hm
  · exact tPhases_of hs hv6 hd6
  · exact tKinds_of hs hv7 hd7
  · exact tOptions_of hs hv8 hd8
  · exact tPow_of hs hv2 hd2
  · exact t64_of hs hv1 hd1
  · exact t32_of hs hv0 hd0
end Go.Proofs.YtedpaajpfaoffaaGreatDoor
