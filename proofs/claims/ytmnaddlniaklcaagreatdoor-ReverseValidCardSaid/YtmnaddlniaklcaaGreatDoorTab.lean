/- The table deBruijn64tab, as the world of a call holds it; how a law that the quick interpreter answers is proved of every world. -/
import Derived.Test.YtmnaddlniaklcaaGreatDoorRows
import Derived.Test.YtmnaddlniaklcaaGreatDoorQh
import Derived.WalkKit
import Derived.ProofKit
import Derived.OpenShut
import Derived.Deep.Slices
import Derived.ChangeSame
import Derived.Lib.SmallJoins
import Derived.LaidMore
import Derived.Stop.Joined
import Derived.HandedShaped
namespace Go.Proofs.YtmnaddlniaklcaaGreatDoor
open Go.ChangeShapes Go.WideShapes Go.ChangeAt Go.RowKit Go.WideMaps Go.WideElems

theorem own_knob : ownKnob Tryz.prog.godebug = none := by kernel_rfl
theorem laid_out : laidOutB Tryz.prog = true := by kernel_rfl
theorem mixed : Tryz.prog.follows .mixedOrders = true := by kernel_rfl
theorem noNumB : Tryz.prog.funcs.toList.all (fun fn => !(fn.name == "runtime.NumGoroutine")) = true := by kernel_rfl
theorem noNum : Ev.NoNum Tryz.prog := fun f fn hf => by
  have h := List.all_eq_true.1 noNumB fn (by
    rw [← Array.getElem?_toList] at hf
    exact List.mem_of_getElem? hf)
  simpa using h

def nums : List Int := [0, 1, 56, 2, 57, 49, 28, 3, 61, 58, 42, 50, 38, 29, 17, 4, 62, 47, 59, 36, 45, 43, 51, 22, 53, 39, 33, 30, 24, 18, 12, 5, 63, 55, 48, 27, 60, 41, 37, 16, 46, 35, 44, 21, 52, 32, 23, 11, 54, 26, 40, 15, 34, 20, 31, 10, 25, 14, 19, 9, 13, 8, 7, 6]
def lits {H : Type} : List (DataW H) := nums.map (fun n => .lit (.int .u8 n))
theorem laid_lits {H : Type} : (Rows.laid_math_bits_deBruijn64tab : DataW H) = .agg lits := rfl

abbrev laid1 {H : Type} : List (String × DataW H) := [("math/bits.deBruijn64tab", Rows.laid_math_bits_deBruijn64tab)]
theorem gTab : Tryz.prog.globalNamed "math/bits.deBruijn64tab" = some 0 := by kernel_rfl
theorem tTab : (Tryz.prog.globals[0]?).map (·.type) = some 395 := by kernel_rfl
theorem nGlob : Tryz.prog.globals.size = 2 := by kernel_rfl
theorem shTab : (((begin Tryz.prog (fun _ _ => 0) default).world.heap[0]?).bind Obj.row?).map (fun x => (x.1.size, x.2)) = some (64, 395) := by kernel_rfl
/-- The door's own heap meets the condition. -/
theorem door_met (os : Os) (args : Array Value) : laidMetH Tryz.prog laid1 ((World.doorLaid Tryz.prog 400 os).forCall (fun _ _ => 0) ⟨#[], args, []⟩).memory :=
  laidMetH_of_parts3 (fuel := 8) (laidMet_of_run' 8 (by kernel_rfl) (by kernel_rfl)) (by kernel_rfl) (by kernel_rfl)

/-- The table lies at block 0. -/
def Tab (W : World) : Prop := ∃ C, W.heap[0]? = some (.cells C 395 (0, 0)) ∧ C.size = 64 ∧ ∀ (j : Nat) (n : Int), nums[j]? = some n → C[j]? = some (Value.int .u8 n)

theorem tab_of {W : World} (h : laidMetH Tryz.prog laid1 W) (hs : W.ShapedOpen Tryz.prog) : Tab W := by
  rw [MakeChecks.laidMetH_plain _ _ _ (by kernel_rfl)] at h
  obtain ⟨ps, ⟨g0, t0, cs0, f0, p0, q0, hg0, ht0, hv0, hd0, _, _⟩, _, _⟩ := h
  obtain rfl := Option.some.inj (gTab.symm.trans hg0)
  obtain rfl := Option.some.inj (tTab.symm.trans ht0)
  obtain ⟨xs, m1, rfl, hx1, hlen, hn3, hel⟩ := DataW.trod_array Tryz.underlying395 hd0
  have c3 : Tryz.prog.cellsOf 5 = 1 := by kernel_rfl
  rw [laid_lits] at hx1
  simp only [Prod.mk.injEq, DataW.agg.injEq] at hx1
  -- the block
  have hrow : ∃ zero, ((begin Tryz.prog (fun _ _ => 0) default).world.heap[0]?).bind Obj.row? = some (zero, 395) ∧ zero.size = 64 := by
    cases hr : ((begin Tryz.prog (fun _ _ => 0) default).world.heap[0]?).bind Obj.row? with
    | none => have := shTab; rw [hr] at this; cases this
    | some x =>
      have := shTab
      rw [hr] at this
      obtain ⟨z, t⟩ := x
      simp at this
      exact ⟨z, by rw [this.2], this.1⟩
  obtain ⟨zero, hz1, hz2⟩ := hrow
  obtain ⟨cs, hcs, hsz, _⟩ := hs.1 0 zero 395 (by rw [nGlob]; omega) hz1
  have hv : World.var? Tryz.prog W "math/bits.deBruijn64tab" = some cs := by
    simp only [World.var?, gTab, Option.bind_some, hcs]
  obtain rfl : cs0 = cs := Option.some.inj (hv0.symm.trans hv)
  refine ⟨cs0, hcs, hsz.trans hz2, fun j n hn => ?_⟩
  have hj : j < 64 := by
    have := (List.getElem?_eq_some_iff.1 hn).1
    exact this
  have h0 := hel j hj
  have hjx : j < xs.length := by omega
  have hxj : xs[j]? = some xs[j] := List.getElem?_eq_getElem hjx
  have hm : (xs[j]?).map (fun x => x.1) = (lits : List (DataW Unit))[j]? := by rw [hx1.1, List.getElem?_map]
  have hl : (lits : List (DataW Unit))[j]? = some (.lit (.int .u8 n)) := by simp [lits, hn]
  rw [hl, hxj] at hm
  rw [hxj] at h0
  obtain ⟨k, e1, e2, _⟩ := DataW.trod_int Tryz.underlying5 h0
  rw [c3, Nat.mul_one] at e1
  have hk : k = n := by
    rw [e2] at hm
    simpa using hm
  subst hk
  have h1 : cs0.toList[j]? = some (.int .u8 k) := by
    have h2 : (List.take 1 (List.drop j cs0.toList))[0]? = some (.int .u8 k) := by rw [e1]; rfl
    rw [List.getElem?_take_of_lt (by omega), List.getElem?_drop, Nat.add_zero] at h2
    exact h2
  rw [← Array.getElem?_toList]
  exact h1

/-! ### Where the interpreter begins -/
noncomputable def tab0 : Ev.AObj := .cells 395 64 (Ev.wr .nil 0 (nums.map (Ev.At.int .u8)))
noncomputable def H0 : Ev.Tr Ev.AObj := (Ev.Tr.nil).put (some tab0) 0
/-- What the names stand for: the globals, and the arguments. -/
def env0 (args : List Value) : Ev.Env := ⟨fun b => if b < 2 then some (b, 0) else none, fun _ => 0, fun i => args[i]?, fun _ => none⟩
theorem H0_get {b : Nat} {o : Ev.AObj} (h : H0.get b = some o) : b = 0 ∧ o = tab0 := by
  unfold H0 at h
  rw [Ev.Tr.get_put] at h
  by_cases e : b = 0
  · rw [if_pos e] at h; cases h; exact ⟨e, rfl⟩
  · rw [if_neg e, Ev.Tr.get_nil] at h; cases h
theorem H0_zero : H0.get 0 = some tab0 := by unfold H0; rw [Ev.Tr.get_put_same]

theorem tab_rel {W : World} (h : Tab W) (args : List Value) : ∃ co, W.heap[0]? = some co ∧ tab0.Rel (env0 args) 0 (0, 0) co := by
  obtain ⟨C, h1, h2, h3⟩ := h
  refine ⟨_, h1, C, rfl, rfl, h2, fun i hi => ?_⟩
  obtain ⟨n, hn⟩ : ∃ n, nums[i]? = some n := ⟨nums[i]'(by exact hi), List.getElem?_eq_getElem _⟩
  refine ⟨.int .u8 n, .int .u8 n, ?_, rfl, by rw [Nat.zero_add]; exact h3 i n hn⟩
  rw [Ev.get_wr, if_pos (by simp; exact hi)]
  simp [hn]

theorem pre0 {W : World} (h : Tab W) (args : List Value) {nx nx' : Nat} (hnx : 2 ≤ nx) (hargs : args.length ≤ nx) : Ev.Pre (env0 args) H0.get W H0.get nx nx' := by
  refine ⟨fun _ _ h => h, ⟨fun b o hb => ?_, fun b b' B B' hb hb' _ _ _ => ?_⟩, fun b h1 _ => ⟨?_, ?_, rfl⟩⟩
  · obtain ⟨rfl, rfl⟩ := H0_get hb
    obtain ⟨co, h1, h2⟩ := tab_rel h args
    exact ⟨(0, 0), co, rfl, h1, h2⟩
  · have key : ∀ b, H0.get b ≠ none → b = 0 := fun b hb => by
      cases ho : H0.get b with
      | none => exact absurd ho hb
      | some o => exact (H0_get ho).1
    rw [key b hb, key b' hb']
  · show (if b < 2 then some (b, 0) else none) = none
    rw [if_neg (by omega)]
  · exact List.getElem?_eq_none (by omega)
theorem glob0 (args : List Value) : (env0 args).glob Tryz.prog := fun g hg => by
  rw [nGlob] at hg
  show (if g < 2 then some (g, 0) else none) = some (g, 0)
  rw [if_pos hg]

/-- What is known of a call that the interpreter answered with true, and with the table as it was. -/
noncomputable def okLaw (r : Ev.CR) : Bool := match r with
  | .ok (.b true) H _ => Ev.objB (H.get 0) (some tab0)
  | _ => false

theorem law_of {hk : Ev.Hook} (hh : Ev.HookOk Tryz.prog hk) {n f : Nat} {args : List Ev.FV} {xs : List Ev.V} {nx : Nat} (hxs : Ev.VsOf args = some xs) (hr : okLaw ((Ev.evQ Tryz.prog hk n).c f args H0 nx) = true) {vs : List Value}
    (hvl : Ev.VL (env0 vs) xs vs) (hnx : 2 ≤ nx) (hargs : vs.length ≤ nx) {W : World} (hT : Tab W) : Calls Tryz.prog f ⟨vs⟩ W (fun e W' => e = .returned (.bool true) ∧ Below W.heap.size W W') := by
  unfold okLaw at hr
  split at hr
  · rename_i H' nx' he
    obtain ⟨x, hx, _, d, hc⟩ := (Ev.evQ_ok noNum mixed hh n).c _ _ _ _ _ _ _ he xs hxs
    cases hx
    refine (hc (env0 vs) H0.get W vs (pre0 hT vs hnx hargs) hvl (glob0 vs)).mono ?_
    rintro e W' ⟨cv, η', rfl, hv, s⟩
    have hcv : cv = .bool true := by
      have := Ev.one_conc.1 hv
      simp only [Ev.At.conc] at this
      exact (Option.some.inj this).symm
    subst hcv
    refine ⟨rfl, s.fr.os, s.fr.tape, s.fr.output, s.fr.size, fun k hk => ?_⟩
    by_cases h0 : k = 0
    · subst h0
      have hov : Ev.ovr H0.get H0.get H'.get nx nx' 0 = some tab0 := by
        rw [Ev.ovr_in (.inl (by rw [H0_zero]; simp)), Ev.objB_ok hr]
      obtain ⟨B, co, hB, hco, hrel⟩ := s.rh.live 0 tab0 hov
      have hB0 : η'.blk 0 = some (0, 0) := (s.le.blk 0 (0, 0) rfl).1
      rw [hB0] at hB; cases hB
      obtain ⟨C, rfl, _, hsz, hcells⟩ := hrel
      obtain ⟨D, hD, hDs, hDc⟩ := hT
      rw [hD, hco]
      congr 2
      apply Array.ext
      · rw [hsz, hDs]
      · intro i hi1 hi2
        obtain ⟨n, hn⟩ : ∃ n, nums[i]? = some n := ⟨nums[i]'(by rw [hsz] at hi1; exact hi1), List.getElem?_eq_getElem _⟩
        obtain ⟨a, v, h1, h2, h3⟩ := hcells i (by omega)
        rw [Ev.get_wr, if_pos (by rw [hsz] at hi1; simp; exact hi1)] at h1
        simp [hn] at h1
        subst h1
        simp only [Ev.At.conc] at h2
        cases h2
        have h4 := hDc i n hn
        rw [Nat.zero_add] at h3
        have e1 : C[i]? = some C[i] := Array.getElem?_eq_getElem hi1
        have e2 : D[i]? = some D[i] := Array.getElem?_eq_getElem hi2
        rw [e1] at h3; rw [e2] at h4
        rw [Option.some.inj h3, Option.some.inj h4]
    · refine s.fr.keep k hk (fun hi => ?_)
      obtain ⟨b, B, hb, hB, rfl⟩ := hi
      cases ho : H0.get b with
      | none => exact hb ho
      | some o =>
        obtain ⟨rfl, _⟩ := H0_get ho
        cases hB
        exact h0 rfl
  · cases hr

set_option maxRecDepth 100000 in
/-- The world's shape and what is laid, both handed to the contract. -/
theorem handed {H : Type} {enc : TypeId × Value → H} {a : Assume} {os : Os} {f : FuncId} {fn : Func} {s : ChangeSpec} {conds : List PathCond} {apart fresh handsOn again : Bool} {X : World → Array Value → Prop}
    (hX : ∀ (w w' : World) (args : Array Value), w.heap = w'.heap → X w args → X w' args) (started : os.Started) (noInit : Tryz.checked.prog.inits.idxOf? f = none) (hfn : Tryz.checked.prog.funcs[f]? = some fn)
    (witness : ∃ (w : World) (tape : Tape) (i : Input), w.os = os ∧ (w.forCall tape i).Shaped Tryz.checked.prog ∧ i.vars = [] ∧ Input.okWide Tryz.checked.prog (w.forCall tape i) .any w.heap.size f i ∧
      ((s.pre enc Tryz.checked.prog fn conds apart (w.forCall tape i).memory i.args ∧ X (w.forCall tape i).memory i.args) ∧ sizedMet enc Tryz.checked.prog fn (OpenSpec.ofChange s) apart (w.forCall tape i).memory i.args) ∧ a.holds Tryz.checked.prog (lone (Frame.enter Tryz.checked.prog f i.args .normal) [] (w.forCall tape i)))
    (contract : ∀ (W : World) (base : Nat) (args : Array Value) (ds gs : List (DataW H)) (before : List MemPlace),
      (∀ (j : Nat) t v, fn.params[j]? = some t → args[j]? = some v → Value.okWide Tryz.checked.prog W .any base t v) → DataW.Whole enc Tryz.checked.prog fn.params.toList s.vars apart W args.toList ds gs before → X W args → W.ShapedOpen Tryz.checked.prog →
      Calls Tryz.checked.prog f args W fun e W' => ∃ v, e = .returned v ∧ s.post enc Tryz.checked.prog fn apart fresh handsOn again W args v W') :
    ReturnsInHanded a Tryz.checked os f .any (fun w args => (s.pre enc Tryz.checked.prog fn conds apart w args ∧ X w args) ∧ sizedMet enc Tryz.checked.prog fn (OpenSpec.ofChange s) apart w args) (s.post enc Tryz.checked.prog fn apart fresh handsOn again) := by
  refine returnsInHanded_of_calls own_knob started noInit witness (fun w tape i _ shape _ ok0 pre0 _ => ?_)
  obtain ⟨_, _, _, fn1, hfn1, _, _, _, _, hvals⟩ := ok0
  obtain rfl : fn1 = fn := Option.some.inj (hfn1.symm.trans hfn)
  obtain ⟨⟨⟨ds, gs, before, whole, _⟩, hx⟩, _⟩ := pre0
  have whole1 := DataW.Whole.of_heap (w' := w.forCall tape i) (by rfl) whole
  refine (contract (w.forCall tape i) w.heap.size i.args ds gs before hvals whole1 (hX _ _ _ (by rfl) hx) shape).mono ?_
  rintro e W' ⟨v, rfl, post⟩
  exact ChangeSpec.post_blind post

end Go.Proofs.YtmnaddlniaklcaaGreatDoor
