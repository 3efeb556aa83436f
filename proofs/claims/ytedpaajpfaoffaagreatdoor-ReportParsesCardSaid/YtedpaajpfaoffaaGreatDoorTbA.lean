/- How bytes read as an argument. -/
import Derived.Test.YtedpaajpfaoffaaGreatDoorChecked
import Derived.Test.YtedpaajpfaoffaaGreatDoorWrA
import Derived.WalkKit
import Derived.ProofKit
import Derived.OpenShut
import Derived.ShutString
import Derived.Test.YtedpaajpfaoffaaGreatDoorRows
import Derived.Test.YtedpaajpfaoffaaGreatDoorKo2
import Derived.Deep.Slices
import Derived.Deep.Fields
import Derived.ChangeSame
import Derived.Lib.SmallJoins
import Derived.LaidMore
import Derived.Stop.Joined
import Derived.HandedShaped
import Derived.Lay
import Derived.Shelf.Vars
set_option linter.all false
set_option maxRecDepth 1000000
namespace Go.Proofs.YtedpaajpfaoffaaGreatDoor
open Go.ChangeShapes Go.WideShapes Go.ChangeAt Go.RowKit
theorem toNat_u8 (m : Nat) (h : m < 256) : (UInt8.ofNat m).toNat = m := by rw [UInt8.toNat_ofNat']; omega
section
variable {H : Type} {enc : TypeId × Value → H} {W : World} {base : Nat}
theorem bytes_of_ints {w : World} {a : Option Addr} {len cap : Nat} (zs : List Int) (hl : len ≤ cap) (hm : cap ≤ maxLen) (hz : zs.length = cap) (ad : Addr) (ha : a = some ad) (hcell : ∀ i, i < zs.length → w.cell? (ad.add i) = some (.int .u8 (zs.getD i 0)))
  (hwz : ∀ n ∈ zs, (Lit.int .u8 n).wf = true) : ∃ l, Bytes w (.slice a len cap) l := by
 subst ha
 refine ⟨(zs.take len).map fun n => UInt8.ofNat n.toNat, some ad, cap, ?_, ?_, hm, by simp, fun hn => ?_⟩
 ·simp; omega
 ·simp; omega
 ·simp at hn
  have h0 := hcell 0 (by omega)
  obtain ⟨b, off, sp⟩ := ad
  have hsp : sp = none := by
   have hh : (⟨b, off, sp⟩ : Addr).add 0 = ⟨b, off, sp⟩ := by unfold Addr.add; simp
   rw [hh] at h0
   unfold World.cell? at h0
   cases sp with
   | none => rfl
   | some x => simp at h0; split at h0 <;> simp_all
  subst hsp
  refine ⟨b, off, rfl, World.block_lt_of_cell? w _ (by rw [add_lit] at h0; exact h0), fun j u hu => ?_⟩
  simp only [List.map_map, List.getElem?_map, List.getElem?_take] at hu
  split at hu
  ·rename_i hj
   have hjz : j < zs.length := by omega
   have h1 := hcell j hjz
   rw [add_lit] at h1
   rw [h1]
   rw [List.getElem?_eq_getElem hjz] at hu
   simp at hu
   rw [← hu]
   have hb := bounds_u8 (hwz _ (List.getElem_mem hjz))
   unfold B
   rw [toNat_u8 _ (by omega)]
   simp [List.getD, List.getElem?_eq_getElem hjz]
   omega
  ·simp at hu
theorem open_y {v : Value} {d : DataW H} {p : List MemPlace} (hv : Value.okWide Tryz.prog W .any base 30 v) (h : DataW.Trod enc Tryz.prog W 0 (fun _ => true) true 30 v d p) : ∃ l, Bytes W v l := by
 obtain ⟨a1, len1, cap1, rfl⟩ := okWide_slice Tryz.underlying30 hv
 obtain ⟨fuel, hf⟩ := h
 rcases open_ints Tryz.underlying30 Tryz.underlying5 (by kernel_rfl) hf with ⟨hcs, _⟩ | ⟨x, l, c, zs, hcs, _, hl, hm, hz, _, hcell, hwz⟩
 ·simp [Value.cells] at hcs
  obtain ⟨rfl, rfl, rfl⟩ := hcs
  exact ⟨[], Reads.nil _ _⟩
 ·simp [Value.cells] at hcs
  obtain ⟨rfl, rfl, rfl⟩ := hcs
  exact bytes_of_ints zs hl hm (by simpa using hz) x rfl hcell hwz
end
end Go.Proofs.YtedpaajpfaoffaaGreatDoor
namespace Go.Proofs.YtedpaajpfaoffaaGreatDoor
open Go.ChangeShapes Go.WideShapes Go.ChangeAt Go.RowKit Go.WideMaps Go.WideElems
theorem own_knob : ownKnob Tryz.prog.godebug = none := by kernel_rfl
theorem laid_out : laidOutB Tryz.prog = true := by kernel_rfl
noncomputable def nG : Nat := Tryz.prog.globals.size
inductive Lt where
 | i (k : IntKind) (n : Int)
 | s (l : List UInt8)
def Lt.val : Lt → Value
 | .i k n => .int k n
 | .s l => .string ⟨l.toArray⟩
structure TabD where
 b : Nat
 t : Nat
 l : List Lt
def TabG (W : World) (x : TabD) : Prop := W.heap[x.b]? = some (.cells ⟨x.l.map Lt.val⟩ x.t (0, 0))
theorem chunks {α : Type} (M : Nat) : ∀ (L : List (List α)) (cs : List α), cs.length = L.length * M → (∀ (i : Nat) (l : List α), L[i]? = some l → (cs.drop (i * M)).take M = l) → cs = L.flatten
 | [], cs, hl, _ => by
  simp at hl
  simp [hl]
 | l :: L, cs, hl, h => by
  have h0 := h 0 l rfl
  rw [Nat.zero_mul, List.drop_zero] at h0
  have ih := chunks M L (cs.drop M) (by rw [List.length_drop, hl, List.length_cons, Nat.add_mul]; omega) (fun i l' hi => by
   have := h (i + 1) l' hi
   rw [List.drop_drop]
   rw [Nat.add_mul, Nat.one_mul] at this
   rw [Nat.add_comm M]; exact this)
  rw [List.flatten_cons, ← ih, ← h0, List.take_append_drop]
theorem nums_of {W : World} {t e N m : Nat} {k : IntKind} {l : List Int} {cs : List Value} {ps : List MemPlace} (hu : Tryz.prog.underlying t = some (.array N e)) (he : Tryz.prog.underlying e = some (.int k)) (hc : Tryz.prog.cellsOf e = 1) (ht : Tryz.prog.cellsOf t = N)
  (hl : l.length = N) (hd : DataW.trod (fun _ => ()) Tryz.prog W 0 (fun _ => true) false m t cs = some (.agg (l.map (fun n => .lit (.int k n))), ps)) : cs = (l.map (Lt.i k)).map Lt.val := by
 obtain ⟨xs, m1, _, hx1, hlen, hn3, hel⟩ := DataW.trod_array hu hd
 simp only [Prod.mk.injEq, DataW.agg.injEq] at hx1
 have key := chunks 1 (l.map fun n => [Value.int k n]) cs (by rw [hlen, ht]; simp [hl]) (fun i c hi => by
  rw [List.getElem?_map] at hi
  cases hli : l[i]? with
  | none => rw [hli] at hi; cases hi
  | some n =>
   rw [hli] at hi; cases hi
   have hiN : i < N := by rw [← hl]; exact (List.getElem?_eq_some_iff.1 hli).1
   have h0 := hel i hiN
   rw [hc] at h0
   have hxi : xs[i]? = some xs[i] := List.getElem?_eq_getElem (by omega)
   rw [hxi] at h0
   obtain ⟨k', e1, e2, _⟩ := DataW.trod_int he h0
   have hm : (xs[i]?).map (fun x => x.1) = (l.map (fun n => (DataW.lit (.int k n) : DataW Unit)))[i]? := by rw [hx1.1, List.getElem?_map]
   rw [hxi, List.getElem?_map, hli, e2] at hm
   simp at hm
   subst hm
   exact e1)
 rw [key]
 clear key hl hd hx1 hlen hn3 hel
 induction l with
 | nil => rfl
 | cons a l ih => simp [Lt.val] at ih ⊢; exact ih
theorem texts_of {W : World} {t e N m : Nat} {l : List (List UInt8)} {cs : List Value} {ps : List MemPlace} (hu : Tryz.prog.underlying t = some (.array N e)) (he : Tryz.prog.underlying e = some .string) (hc : Tryz.prog.cellsOf e = 1) (ht : Tryz.prog.cellsOf t = N)
  (hl : l.length = N) (hd : DataW.trod (fun _ => ()) Tryz.prog W 0 (fun _ => true) false m t cs = some (.agg (l.map (fun n => .lit (.string n))), ps)) : cs = (l.map Lt.s).map Lt.val := by
 obtain ⟨xs, m1, _, hx1, hlen, hn3, hel⟩ := DataW.trod_array hu hd
 simp only [Prod.mk.injEq, DataW.agg.injEq] at hx1
 have key := chunks 1 (l.map fun n => [Value.string ⟨n.toArray⟩]) cs (by rw [hlen, ht]; simp [hl]) (fun i c hi => by
  rw [List.getElem?_map] at hi
  cases hli : l[i]? with
  | none => rw [hli] at hi; cases hi
  | some n =>
   rw [hli] at hi; cases hi
   have hiN : i < N := by rw [← hl]; exact (List.getElem?_eq_some_iff.1 hli).1
   have h0 := hel i hiN
   rw [hc] at h0
   have hxi : xs[i]? = some xs[i] := List.getElem?_eq_getElem (by omega)
   rw [hxi] at h0
   obtain ⟨k', e1, e2, _⟩ := DataW.trod_string he h0
   have hm : (xs[i]?).map (fun x => x.1) = (l.map (fun n => (DataW.lit (.string n) : DataW Unit)))[i]? := by rw [hx1.1, List.getElem?_map]
   rw [hxi, List.getElem?_map, hli, e2] at hm
   simp at hm
   subst hm
   exact e1)
 rw [key]
 clear key hl hd hx1 hlen hn3 hel
 induction l with
 | nil => rfl
 | cons a l ih => simp [Lt.val] at ih ⊢; exact ih
theorem tabG_of {W : World} {name : String} {x : TabD} (hg : Tryz.prog.globalNamed name = some x.b) (hN : x.b < nG)
  (hsh : (((begin Tryz.prog (fun _ _ => 0) default).world.heap[x.b]?).bind Obj.row?).map (fun y => y.2) = some x.t) (hs : W.ShapedOpen Tryz.prog)
  {cs0 : Array Value} (hv0 : World.var? Tryz.prog W name = some cs0) (hcs : cs0.toList = x.l.map Lt.val) : TabG W x := by
 obtain ⟨zero, hz1⟩ : ∃ zero, ((begin Tryz.prog (fun _ _ => 0) default).world.heap[x.b]?).bind Obj.row? = some (zero, x.t) := by
  cases hr : ((begin Tryz.prog (fun _ _ => 0) default).world.heap[x.b]?).bind Obj.row? with
  | none => rw [hr] at hsh; cases hsh
  | some y =>
   rw [hr] at hsh
   obtain ⟨z, t'⟩ := y
   simp at hsh
   exact ⟨z, by rw [hsh]⟩
 obtain ⟨cs, hcs1, hsz, _⟩ := hs.1 x.b zero x.t hN hz1
 have hv : World.var? Tryz.prog W name = some cs := by
  simp only [World.var?, hg, Option.bind_some, hcs1]
 obtain rfl : cs0 = cs := Option.some.inj (hv0.symm.trans hv)
 unfold TabG
 rw [hcs1, ← hcs]
theorem handed {H : Type} {enc : TypeId × Value → H} {a : Assume} {os : Os} {f : FuncId} {fn : Func} {s : ChangeSpec} {conds : List PathCond} {apart fresh handsOn again : Bool} {X : World → Array Value → Prop}
  (hX : ∀ (w w' : World) (args : Array Value), w.heap = w'.heap → X w args → X w' args) (started : os.Started) (noInit : Tryz.checked.prog.inits.idxOf? f = none) (hfn : Tryz.checked.prog.funcs[f]? = some fn)
  (witness : ∃ (w : World) (tape : Tape) (i : Input), w.os = os ∧ (w.forCall tape i).Shaped Tryz.checked.prog ∧ i.vars = [] ∧ Input.okWide Tryz.checked.prog (w.forCall tape i) .any w.heap.size f i ∧
   ((s.pre enc Tryz.checked.prog fn conds apart (w.forCall tape i).memory i.args ∧ X (w.forCall tape i).memory i.args) ∧ sizedMet enc Tryz.checked.prog fn (OpenSpec.ofChange s) apart (w.forCall tape i).memory i.args) ∧ a.holds Tryz.checked.prog (lone (Frame.enter Tryz.checked.prog f i.args .normal) [] (w.forCall tape i)))
  (contract : ∀ (W : World) (base : Nat) (args : Array Value) (ds gs : List (DataW H)) (before : List MemPlace),
   (∀ (j : Nat) t v, fn.params[j]? = some t → args[j]? = some v → Value.okWide Tryz.checked.prog W .any base t v) → DataW.Whole enc Tryz.checked.prog fn.params.toList s.vars apart W args.toList ds gs before → X W args → W.ShapedOpen Tryz.checked.prog →
   Calls Tryz.checked.prog f args W fun e W' => ∃ v, e = .returned v ∧ s.post enc Tryz.checked.prog fn apart fresh handsOn again W args v W') :
  ReturnsInHanded a Tryz.checked os f .any (fun w args => (s.pre enc Tryz.checked.prog fn conds apart w args ∧ X w args) ∧ sizedMet enc Tryz.checked.prog fn (OpenSpec.ofChange s) apart w args) (s.post enc Tryz.checked.prog fn apart fresh handsOn again) := by
 refine returnsInHanded_of_calls own_knob started noInit witness (fun w tape i _ shape _ ok0 pre0 _ => ?_)
 obtain ⟨_, _, _, fn1, hfn1, _, _, _, _, hvals⟩ := ok0
 obtain rfl : fn1 = fn := Option.some.inj (hfn1.symm.trans hfn)
 obtain ⟨⟨⟨ds, gs, before, whole, _⟩, hx⟩, _⟩ := pre0
 have whole1 := DataW.Whole.of_heap (w' := w.forCall tape i) (by rfl) whole
 refine (contract (w.forCall tape i) w.heap.size i.args ds gs before hvals whole1 (hX _ _ _ (by rfl) hx) shape).mono ?_
 rintro e W' ⟨v, rfl, post⟩
 exact ChangeSpec.post_blind post
def tPhases : TabD := ⟨0, 76, [.s [114, 101, 118, 101, 114, 115, 101], .s [102, 111, 114, 119, 97, 114, 100], .s [97, 115, 115, 105, 103, 110], .s [115, 111, 108, 100], .s [102, 97, 105, 108, 101, 100]]⟩
def tKinds : TabD := ⟨1, 144, [.s [115, 116, 97, 121], .s [109, 111, 118, 101], .s [101, 120, 105, 116], .s [102, 114, 101, 101, 122, 101]]⟩
def tOptions : TabD := ⟨2, 144, [.s [111, 102, 102], .s [108, 111, 119], .s [104, 105, 103, 104], .s [117, 104, 102]]⟩
def tPow : TabD := ⟨5, 233, Lib.pow10Tab.map (Lt.i .u64)⟩
theorem tPow_is {w : World} (h : TabG w tPow) : Lib.TabIs Tryz.prog w "internal/strconv.uint64pow10" .u64 Lib.pow10Tab := by
 unfold Lib.TabIs World.var?
 rw [g_pow]
 simp only [Option.bind_some]
 rw [show w.heap[5]? = some _ from h]
 rfl
def t64 : TabD := ⟨10, 248, ([0, 1, 56, 2, 57, 49, 28, 3, 61, 58, 42, 50, 38, 29, 17, 4, 62, 47, 59, 36, 45, 43, 51, 22, 53, 39, 33, 30, 24, 18, 12, 5, 63, 55, 48, 27, 60, 41, 37, 16, 46, 35, 44, 21, 52, 32, 23, 11, 54, 26, 40, 15, 34, 20, 31, 10, 25, 14, 19, 9, 13, 8, 7, 6] : List Int).map (Lt.i .u8)⟩
abbrev laid52 : List (String × DataW Unit) := [("math/bits.deBruijn32tab", Rows.laid_math_bits_deBruijn32tab), ("math/bits.deBruijn64tab", Rows.laid_math_bits_deBruijn64tab), ("internal/strconv.uint64pow10", Rows.laid_internal_strconv_uint64pow10), ("unicode/utf8.acceptRanges", Rows.laid_unicode_utf8_acceptRanges), ("strconv.ErrRange", Rows.laid_strconv_ErrRange), ("strconv.ErrSyntax", Rows.laid_strconv_ErrSyntax), ("bandplan/report.phases", Rows.laid_bandplan_report_phases), ("bandplan/report.kinds", Rows.laid_bandplan_report_kinds), ("bandplan/report.options", Rows.laid_bandplan_report_options), ("unicode/utf8.first", Rows.laid_unicode_utf8_first)]
theorem t64_g : Tryz.prog.globalNamed "math/bits.deBruijn64tab" = some 10 := by kernel_rfl
theorem t64_t : (Tryz.prog.globals[10]?).map (·.type) = some 248 := by kernel_rfl
theorem t64_sh : (((begin Tryz.prog (fun _ _ => 0) default).world.heap[t64.b]?).bind Obj.row?).map (fun y => y.2) = some t64.t := by kernel_rfl
theorem t64_lt : t64.b < nG := of_decide_eq_true (by kernel_rfl)
theorem t64_of {W : World} {f : Nat} {ps : List MemPlace} {cs : Array Value} (hs : W.ShapedOpen Tryz.prog) (hv : World.var? Tryz.prog W "math/bits.deBruijn64tab" = some cs) (hd : DataW.trod (fun _ => ()) Tryz.prog W 0 (fun _ => true) false f 248 cs.toList = some (Rows.laid_math_bits_deBruijn64tab, ps)) : TabG W t64 :=
 tabG_of t64_g t64_lt t64_sh hs hv (nums_of (k := .u8) (l := ([0, 1, 56, 2, 57, 49, 28, 3, 61, 58, 42, 50, 38, 29, 17, 4, 62, 47, 59, 36, 45, 43, 51, 22, 53, 39, 33, 30, 24, 18, 12, 5, 63, 55, 48, 27, 60, 41, 37, 16, 46, 35, 44, 21, 52, 32, 23, 11, 54, 26, 40, 15, 34, 20, 31, 10, 25, 14, 19, 9, 13, 8, 7, 6] : List Int)) Tryz.underlying248 Tryz.underlying5 (by kernel_rfl) (by kernel_rfl) rfl hd)
theorem tPow_g : Tryz.prog.globalNamed "internal/strconv.uint64pow10" = some 5 := by kernel_rfl
theorem tPow_t : (Tryz.prog.globals[5]?).map (·.type) = some 233 := by kernel_rfl
theorem tPow_sh : (((begin Tryz.prog (fun _ _ => 0) default).world.heap[tPow.b]?).bind Obj.row?).map (fun y => y.2) = some tPow.t := by kernel_rfl
theorem tPow_lt : tPow.b < nG := of_decide_eq_true (by kernel_rfl)
theorem tPow_of {W : World} {f : Nat} {ps : List MemPlace} {cs : Array Value} (hs : W.ShapedOpen Tryz.prog) (hv : World.var? Tryz.prog W "internal/strconv.uint64pow10" = some cs) (hd : DataW.trod (fun _ => ()) Tryz.prog W 0 (fun _ => true) false f 233 cs.toList = some (Rows.laid_internal_strconv_uint64pow10, ps)) : TabG W tPow :=
 tabG_of tPow_g tPow_lt tPow_sh hs hv (nums_of (k := .u64) (l := (Lib.pow10Tab : List Int)) Tryz.underlying233 Tryz.underlying142 (by kernel_rfl) (by kernel_rfl) rfl hd)
theorem tPhases_g : Tryz.prog.globalNamed "bandplan/report.phases" = some 0 := by kernel_rfl
theorem tPhases_t : (Tryz.prog.globals[0]?).map (·.type) = some 76 := by kernel_rfl
theorem tPhases_sh : (((begin Tryz.prog (fun _ _ => 0) default).world.heap[tPhases.b]?).bind Obj.row?).map (fun y => y.2) = some tPhases.t := by kernel_rfl
theorem tPhases_lt : tPhases.b < nG := of_decide_eq_true (by kernel_rfl)
theorem tPhases_of {W : World} {f : Nat} {ps : List MemPlace} {cs : Array Value} (hs : W.ShapedOpen Tryz.prog) (hv : World.var? Tryz.prog W "bandplan/report.phases" = some cs) (hd : DataW.trod (fun _ => ()) Tryz.prog W 0 (fun _ => true) false f 76 cs.toList = some (Rows.laid_bandplan_report_phases, ps)) : TabG W tPhases :=
 tabG_of tPhases_g tPhases_lt tPhases_sh hs hv (texts_of (l := ([[114, 101, 118, 101, 114, 115, 101], [102, 111, 114, 119, 97, 114, 100], [97, 115, 115, 105, 103, 110], [115, 111, 108, 100], [102, 97, 105, 108, 101, 100]] : List (List UInt8))) Tryz.underlying76 Tryz.underlying9 (by kernel_rfl) (by kernel_rfl) rfl hd)
theorem tKinds_g : Tryz.prog.globalNamed "bandplan/report.kinds" = some 1 := by kernel_rfl
theorem tKinds_t : (Tryz.prog.globals[1]?).map (·.type) = some 144 := by kernel_rfl
theorem tKinds_sh : (((begin Tryz.prog (fun _ _ => 0) default).world.heap[tKinds.b]?).bind Obj.row?).map (fun y => y.2) = some tKinds.t := by kernel_rfl
theorem tKinds_lt : tKinds.b < nG := of_decide_eq_true (by kernel_rfl)
theorem tKinds_of {W : World} {f : Nat} {ps : List MemPlace} {cs : Array Value} (hs : W.ShapedOpen Tryz.prog) (hv : World.var? Tryz.prog W "bandplan/report.kinds" = some cs) (hd : DataW.trod (fun _ => ()) Tryz.prog W 0 (fun _ => true) false f 144 cs.toList = some (Rows.laid_bandplan_report_kinds, ps)) : TabG W tKinds :=
 tabG_of tKinds_g tKinds_lt tKinds_sh hs hv (texts_of (l := ([[115, 116, 97, 121], [109, 111, 118, 101], [101, 120, 105, 116], [102, 114, 101, 101, 122, 101]] : List (List UInt8))) Tryz.underlying144 Tryz.underlying9 (by kernel_rfl) (by kernel_rfl) rfl hd)
theorem tOptions_g : Tryz.prog.globalNamed "bandplan/report.options" = some 2 := by kernel_rfl
theorem tOptions_t : (Tryz.prog.globals[2]?).map (·.type) = some 144 := by kernel_rfl
theorem tOptions_sh : (((begin Tryz.prog (fun _ _ => 0) default).world.heap[tOptions.b]?).bind Obj.row?).map (fun y => y.2) = some tOptions.t := by kernel_rfl
theorem tOptions_lt : tOptions.b < nG := of_decide_eq_true (by kernel_rfl)
theorem tOptions_of {W : World} {f : Nat} {ps : List MemPlace} {cs : Array Value} (hs : W.ShapedOpen Tryz.prog) (hv : World.var? Tryz.prog W "bandplan/report.options" = some cs) (hd : DataW.trod (fun _ => ()) Tryz.prog W 0 (fun _ => true) false f 144 cs.toList = some (Rows.laid_bandplan_report_options, ps)) : TabG W tOptions :=
 tabG_of tOptions_g tOptions_lt tOptions_sh hs hv (texts_of (l := ([[111, 102, 102], [108, 111, 119], [104, 105, 103, 104], [117, 104, 102]] : List (List UInt8))) Tryz.underlying144 Tryz.underlying9 (by kernel_rfl) (by kernel_rfl) rfl hd)
theorem err_of {W : World} {name : String} {g f : Nat} {d : DataW Unit} {nm : String} {ps : List MemPlace} {cs : Array Value} (hg : Tryz.prog.globalNamed name = some g) (hv : World.var? Tryz.prog W name = some cs) (hd : DataW.trod (fun _ => ()) Tryz.prog W 0 (fun _ => true) false f 107 cs.toList = some (.iface nm d, ps)) :
  ∃ ev, W.cell? ⟨g, 0, none⟩ = some ev ∧ (ev = .nilIface ∨ ∃ te pe, ev = .iface te pe) := by
 obtain ⟨_, u, v, hc, _, _⟩ := iface_of_trod Tryz.underlying107 hd
 refine ⟨.iface u v, ?_, .inr ⟨u, v, rfl⟩⟩
 rw [World.var?_cell hg hv 0, ← Array.getElem?_toList, hc]
 rfl
theorem syn_g : Tryz.prog.globalNamed "strconv.ErrSyntax" = some 3 := by kernel_rfl
theorem syn_t : (Tryz.prog.globals[3]?).map (·.type) = some 107 := by kernel_rfl
theorem ran_g : Tryz.prog.globalNamed "strconv.ErrRange" = some 4 := by kernel_rfl
theorem ran_t : (Tryz.prog.globals[4]?).map (·.type) = some 107 := by kernel_rfl
theorem mn_of {W : World} (h : laidMetH Tryz.prog laid52 W) (hs : W.ShapedOpen Tryz.prog) : MN W := by
 rw [MakeChecks.laidMetH_plain _ _ _ (by kernel_rfl)] at h
 obtain ⟨ps, r0, _, _⟩ := h
 obtain ⟨g0, t0, cs0, f0, p0, q0, hg0, ht0, hv0, hd0, r1, _⟩ := r0
 obtain ⟨g1, t1, cs1, f1, p1, q1, hg1, ht1, hv1, hd1, r2, _⟩ := r1
 obtain ⟨g2, t2, cs2, f2, p2, q2, hg2, ht2, hv2, hd2, r3, _⟩ := r2
 obtain ⟨g3, t3, cs3, f3, p3, q3, hg3, ht3, hv3, hd3, r4, _⟩ := r3
 obtain ⟨g4, t4, cs4, f4, p4, q4, hg4, ht4, hv4, hd4, r5, _⟩ := r4
 obtain ⟨g5, t5, cs5, f5, p5, q5, hg5, ht5, hv5, hd5, r6, _⟩ := r5
 obtain ⟨g6, t6, cs6, f6, p6, q6, hg6, ht6, hv6, hd6, r7, _⟩ := r6
 obtain ⟨g7, t7, cs7, f7, p7, q7, hg7, ht7, hv7, hd7, r8, _⟩ := r7
 obtain ⟨g8, t8, cs8, f8, p8, q8, hg8, ht8, hv8, hd8, r9, _⟩ := r8
 obtain rfl := Option.some.inj (t64_g.symm.trans hg1)
 obtain rfl := Option.some.inj (t64_t.symm.trans ht1)
 obtain rfl := Option.some.inj (tPow_g.symm.trans hg2)
 obtain rfl := Option.some.inj (tPow_t.symm.trans ht2)
 obtain rfl := Option.some.inj (ran_g.symm.trans hg4)
 obtain rfl := Option.some.inj (ran_t.symm.trans ht4)
 obtain rfl := Option.some.inj (syn_g.symm.trans hg5)
 obtain rfl := Option.some.inj (syn_t.symm.trans ht5)
 obtain rfl := Option.some.inj (tPhases_g.symm.trans hg6)
 obtain rfl := Option.some.inj (tPhases_t.symm.trans ht6)
 obtain rfl := Option.some.inj (tKinds_g.symm.trans hg7)
 obtain rfl := Option.some.inj (tKinds_t.symm.trans ht7)
 obtain rfl := Option.some.inj (tOptions_g.symm.trans hg8)
 obtain rfl := Option.some.inj (tOptions_t.symm.trans ht8)
 have hmax : ∃ m, W.cell? ⟨6, 0, none⟩ = some (.int .i64 m) := by
  have hz : ((begin Tryz.prog (fun _ _ => 0) default).world.heap[6]?).bind Obj.row? = some (#[.int .i64 0], 3) := by kernel_rfl
  have hlt : 6 < Tryz.prog.globals.size := of_decide_eq_true (by kernel_rfl)
  exact cell_of_shapedOpen_int hs hlt hz rfl (by kernel_rfl) (by kernel_rfl) Tryz.underlying3
 have h64 := t64_of hs hv1 hd1
 have hpow := tPow_is (tPow_of hs hv2 hd2)
 refine ⟨⟨hpow, hmax, err_of syn_g hv5 hd5, err_of ran_g hv4 hd4⟩, ⟨tPhases_of hs hv6 hd6, tKinds_of hs hv7 hd7, tOptions_of hs hv8 hd8, hpow⟩, ?_⟩
 exact Nat.lt_of_lt_of_le (show (10 : Nat) < 10 + 1 by decide) (Array.getElem?_eq_some_iff.1 (show W.heap[10]? = some _ from h64)).1
end Go.Proofs.YtedpaajpfaoffaaGreatDoor
