/- The two tables deBruijn64tab and worths, as the world of a call holds them. -/
import Derived.Test.YtmnaddlniaklcaaGreatDoorTab
import Derived.Test.YtmnaddlniaklcaaGreatDoorBvH
namespace Go.Proofs.YtmnaddlniaklcaaGreatDoor
open Go.ChangeShapes Go.WideShapes Go.ChangeAt Go.RowKit Go.WideMaps Go.WideElems

def wnums : List Int := [0, 250, 600, 1000]
def wlits {H : Type} : List (DataW H) := wnums.map (fun n => .lit (.int .i64 n))
theorem laid_wlits {H : Type} : (Rows.laid_bandplan_score_worths : DataW H) = .agg wlits := rfl
abbrev laid2 {H : Type} : List (String × DataW H) := [("math/bits.deBruijn64tab", Rows.laid_math_bits_deBruijn64tab), ("bandplan/score.worths", Rows.laid_bandplan_score_worths)]
theorem gWts : Tryz.prog.globalNamed "bandplan/score.worths" = some 1 := by kernel_rfl
theorem tWts : (Tryz.prog.globals[1]?).map (·.type) = some 405 := by kernel_rfl
theorem shWts : (((begin Tryz.prog (fun _ _ => 0) default).world.heap[1]?).bind Obj.row?).map (fun x => (x.1.size, x.2)) = some (4, 405) := by kernel_rfl
theorem door_met2 (os : Os) (args : Array Value) : laidMetH Tryz.prog laid2 ((World.doorLaid Tryz.prog 400 os).forCall (fun _ _ => 0) ⟨#[], args, []⟩).memory :=
  laidMetH_of_parts3 (fuel := 8) (laidMet_of_run' 8 (by kernel_rfl) (by kernel_rfl)) (by kernel_rfl) (by kernel_rfl)

/-- A table of numbers at a block. -/
def TabAt (W : World) (b : Nat) (t : TypeId) (k : IntKind) (l : List Int) : Prop := ∃ C, W.heap[b]? = some (.cells C t (0, 0)) ∧ C.size = l.length ∧ ∀ (j : Nat) (n : Int), l[j]? = some n → C[j]? = some (Value.int k n)
theorem Tab.at {W : World} (h : TabAt W 0 395 .u8 nums) : Tab W := h

theorem tabAt_of {W : World} {name : String} {b t e : Nat} {k : IntKind} {l : List Int} {m N : Nat} {ps : List MemPlace} {d : DataW Unit} (hg : Tryz.prog.globalNamed name = some b) (hN : b < 2)
    (hu : Tryz.prog.underlying t = some (.array N e)) (he : Tryz.prog.underlying e = some (.int k)) (hc : Tryz.prog.cellsOf e = 1) (hl : l.length = N) (hd : d = .agg (l.map (fun n => .lit (.int k n))))
    (hsh : (((begin Tryz.prog (fun _ _ => 0) default).world.heap[b]?).bind Obj.row?).map (fun x => (x.1.size, x.2)) = some (N, t)) (hs : W.ShapedOpen Tryz.prog)
    {cs0 : Array Value} (hv0 : World.var? Tryz.prog W name = some cs0) (hd0 : DataW.trod (fun _ => ()) Tryz.prog W 0 (fun _ => true) false m t cs0.toList = some (d, ps)) : TabAt W b t k l := by
  obtain ⟨xs, m1, hcs1, hx1, hlen, hn3, hel⟩ := DataW.trod_array hu hd0
  rw [hd] at hx1
  simp only [Prod.mk.injEq, DataW.agg.injEq] at hx1
  obtain ⟨zero, hz1, hz2⟩ : ∃ zero, ((begin Tryz.prog (fun _ _ => 0) default).world.heap[b]?).bind Obj.row? = some (zero, t) ∧ zero.size = N := by
    cases hr : ((begin Tryz.prog (fun _ _ => 0) default).world.heap[b]?).bind Obj.row? with
    | none => rw [hr] at hsh; cases hsh
    | some x =>
      rw [hr] at hsh
      obtain ⟨z, t'⟩ := x
      simp at hsh
      exact ⟨z, by rw [hsh.2], hsh.1⟩
  obtain ⟨cs, hcs, hsz, _⟩ := hs.1 b zero t (by rw [nGlob]; exact hN) hz1
  have hv : World.var? Tryz.prog W name = some cs := by
    simp only [World.var?, hg, Option.bind_some, hcs]
  obtain rfl : cs0 = cs := Option.some.inj (hv0.symm.trans hv)
  refine ⟨cs0, hcs, by rw [hsz, hz2, hl], fun j n hn => ?_⟩
  have hj : j < N := by
    rw [← hl]
    exact (List.getElem?_eq_some_iff.1 hn).1
  have h0 := hel j hj
  have hjx : j < xs.length := by omega
  have hxj : xs[j]? = some xs[j] := List.getElem?_eq_getElem hjx
  have hm : (xs[j]?).map (fun x => x.1) = (l.map (fun n => (DataW.lit (.int k n) : DataW Unit)))[j]? := by rw [hx1.1, List.getElem?_map]
  have hl2 : (l.map (fun n => (DataW.lit (.int k n) : DataW Unit)))[j]? = some (.lit (.int k n)) := by simp [hn]
  rw [hl2, hxj] at hm
  rw [hxj] at h0
  obtain ⟨k', e1, e2, _⟩ := DataW.trod_int he h0
  rw [hc, Nat.mul_one] at e1
  have hk : k' = n := by
    rw [e2] at hm
    simpa using hm
  subst hk
  have h1 : cs0.toList[j]? = some (.int k k') := by
    have h2 : (List.take 1 (List.drop j cs0.toList))[0]? = some (.int k k') := by rw [e1]; rfl
    rw [List.getElem?_take_of_lt (by omega), List.getElem?_drop, Nat.add_zero] at h2
    exact h2
  rw [← Array.getElem?_toList]
  exact h1

/-- Both tables. -/
def Tabs (W : World) : Prop := Tab W ∧ TabAt W 1 405 .i64 wnums
theorem tabs_of {W : World} (h : laidMetH Tryz.prog laid2 W) (hs : W.ShapedOpen Tryz.prog) : Tabs W := by
  rw [MakeChecks.laidMetH_plain _ _ _ (by kernel_rfl)] at h
  obtain ⟨ps, ⟨g0, t0, cs0, f0, p0, q0, hg0, ht0, hv0, hd0, hrest, _⟩, _, _⟩ := h
  obtain ⟨g1, t1, cs1, f1, p1, q1, hg1, ht1, hv1, hd1, _, _⟩ := hrest
  obtain rfl := Option.some.inj (gTab.symm.trans hg0)
  obtain rfl := Option.some.inj (tTab.symm.trans ht0)
  obtain rfl := Option.some.inj (gWts.symm.trans hg1)
  obtain rfl := Option.some.inj (tWts.symm.trans ht1)
  exact ⟨Tab.at (tabAt_of (l := nums) gTab (by omega) Tryz.underlying395 Tryz.underlying5 (by kernel_rfl) rfl rfl shTab hs hv0 hd0), tabAt_of (l := wnums) gWts (by omega) Tryz.underlying405 Tryz.underlying3 (by kernel_rfl) rfl rfl shWts hs hv1 hd1⟩
theorem TabAt.touch {W W' : World} {b t : Nat} {k : IntKind} {l : List Int} (h : TabAt W b t k l) (ht : Touch [] W W') : TabAt W' b t k l := by
  obtain ⟨C, h1, h2, h3⟩ := h
  exact ⟨C, by rw [ht.block b (Array.getElem?_eq_some_iff.1 h1).1 (by simp)]; exact h1, h2, h3⟩
theorem Tabs.touch {W W' : World} (h : Tabs W) (ht : Touch [] W W') : Tabs W' := ⟨TabAt.touch (b := 0) (t := 395) (k := .u8) (l := nums) h.1 ht, h.2.touch ht⟩

noncomputable def wts0 : Ev.AObj := .cells 405 4 (Ev.wr .nil 0 (wnums.map (Ev.At.int .i64)))
noncomputable def H2 : Ev.Tr Ev.AObj := H0.put (some wts0) 1
theorem H2_get {b : Nat} {o : Ev.AObj} (h : H2.get b = some o) : (b = 0 ∧ o = tab0) ∨ (b = 1 ∧ o = wts0) := by
  unfold H2 at h
  rw [Ev.Tr.get_put] at h
  by_cases e : b = 1
  · rw [if_pos e] at h; cases h; exact .inr ⟨e, rfl⟩
  · rw [if_neg e] at h; exact .inl (H0_get h)
theorem H2_zero : H2.get 0 = some tab0 := by unfold H2; rw [Ev.Tr.get_put_other _ _ (by omega)]; exact H0_zero
theorem H2_one : H2.get 1 = some wts0 := by unfold H2; rw [Ev.Tr.get_put_same]

theorem rel_of {W : World} {b t : Nat} {k : IntKind} {l : List Int} (h : TabAt W b t k l) (η : Ev.Env) : ∃ co, W.heap[b]? = some co ∧ (Ev.AObj.cells t l.length (Ev.wr .nil 0 (l.map (Ev.At.int k)))).Rel η b (b, 0) co := by
  obtain ⟨C, h1, h2, h3⟩ := h
  refine ⟨_, h1, C, rfl, rfl, h2, fun i hi => ?_⟩
  obtain ⟨n, hn⟩ : ∃ n, l[i]? = some n := ⟨l[i], List.getElem?_eq_getElem hi⟩
  refine ⟨.int k n, .int k n, ?_, rfl, by rw [Nat.zero_add]; exact h3 i n hn⟩
  rw [Ev.get_wr, if_pos (by simp; exact hi)]
  simp [hn]
/-- Such a table is determined by what is said of it. -/
theorem rel_same {W W' : World} {b t : Nat} {k : IntKind} {l : List Int} (h : TabAt W b t k l) {η : Ev.Env} {co : Obj} {B : Nat × Nat} (hco : W'.heap[b]? = some co) (hr : (Ev.AObj.cells t l.length (Ev.wr .nil 0 (l.map (Ev.At.int k)))).Rel η b B co) : W'.heap[b]? = W.heap[b]? := by
  obtain ⟨D, hD, hDs, hDc⟩ := h
  obtain ⟨C, rfl, _, hsz, hcells⟩ := hr
  rw [hD, hco]
  congr 2
  apply Array.ext
  · rw [hsz, hDs]
  · intro i hi1 hi2
    obtain ⟨n, hn⟩ : ∃ n, l[i]? = some n := ⟨l[i]'(by omega), List.getElem?_eq_getElem _⟩
    obtain ⟨a, v, h1, h2, h3⟩ := hcells i (by omega)
    rw [Ev.get_wr, if_pos (by simp; omega)] at h1
    simp [hn] at h1
    subst h1
    simp only [Ev.At.conc] at h2
    cases h2
    have h4 := hDc i n hn
    have e1 : C[i]? = some C[i] := Array.getElem?_eq_getElem hi1
    have e2 : D[i]? = some D[i] := Array.getElem?_eq_getElem hi2
    have h3' : B.2 = B.2 := rfl
    simp only [Nat.zero_add] at h3
    rw [e1] at h3; rw [e2] at h4
    rw [Option.some.inj h3, Option.some.inj h4]

noncomputable def okLaw2 (r : Ev.CR) : Bool := match r with
  | .ok (.b true) H _ => Ev.objB (H.get 0) (some tab0) && Ev.objB (H.get 1) (some wts0)
  | _ => false
theorem law_of2 {hk : Ev.Hook} (hh : Ev.HookOk Tryz.prog hk) {n f nx : Nat} (hr : okLaw2 ((Ev.evQ Tryz.prog hk n).c f [] H2 nx) = true) (hnx : 2 ≤ nx) {W : World} (hT : Tabs W) :
    Calls Tryz.prog f #[] W (fun e W' => e = .returned (.bool true) ∧ Touch [] W W') := by
  unfold okLaw2 at hr
  split at hr
  · rename_i H' nx' he
    rw [Bool.and_eq_true] at hr
    obtain ⟨x, hx, _, d, hc⟩ := (Ev.evQ_ok noNum mixed hh n).c _ _ _ _ _ _ _ he [] rfl
    cases hx
    have hpre : Ev.Pre (env0 []) H2.get W H2.get nx nx' := by
      refine ⟨fun _ _ h => h, ⟨fun b o hb => ?_, fun b b' B B' hb hb' hB hB' e => ?_⟩, fun b h1 _ => ⟨?_, rfl, rfl⟩⟩
      · rcases H2_get hb with ⟨rfl, rfl⟩ | ⟨rfl, rfl⟩
        · obtain ⟨co, h1, h2⟩ := rel_of (b := 0) (t := 395) (k := .u8) (l := nums) hT.1 (env0 [])
          exact ⟨(0, 0), co, rfl, h1, h2⟩
        · obtain ⟨co, h1, h2⟩ := rel_of hT.2 (env0 [])
          exact ⟨(1, 0), co, rfl, h1, h2⟩
      · have key : ∀ b B, H2.get b ≠ none → (env0 []).blk b = some B → b = B.1 := fun b B hb hB => by
          cases ho : H2.get b with
          | none => exact absurd ho hb
          | some o =>
            rcases H2_get ho with ⟨rfl, _⟩ | ⟨rfl, _⟩ <;> cases hB <;> rfl
        rw [key b B hb hB, key b' B' hb' hB', e]
      · show (if b < 2 then some (b, 0) else none) = none
        rw [if_neg (by omega)]
    refine (hc (env0 []) H2.get W [] hpre trivial (glob0 [])).mono ?_
    rintro e W' ⟨cv, η', rfl, hv, s⟩
    have hcv : cv = .bool true := by
      have := Ev.one_conc.1 hv
      simp only [Ev.At.conc] at this
      exact (Option.some.inj this).symm
    subst hcv
    refine ⟨rfl, s.fr.os, s.fr.tape, s.fr.output, s.fr.size, fun k hk _ => ?_⟩
    by_cases h0 : k = 0
    · subst h0
      have hov : Ev.ovr H2.get H2.get H'.get nx nx' 0 = some tab0 := by rw [Ev.ovr_in (.inl (by rw [H2_zero]; simp)), Ev.objB_ok hr.1]
      obtain ⟨B, co, hB, hco, hrel⟩ := s.rh.live 0 tab0 hov
      have hB0 : η'.blk 0 = some (0, 0) := (s.le.blk 0 (0, 0) rfl).1
      rw [hB0] at hB; cases hB
      exact rel_same (b := 0) (t := 395) (k := .u8) (l := nums) hT.1 hco hrel
    · by_cases h1 : k = 1
      · subst h1
        have hov : Ev.ovr H2.get H2.get H'.get nx nx' 1 = some wts0 := by rw [Ev.ovr_in (.inl (by rw [H2_one]; simp)), Ev.objB_ok hr.2]
        obtain ⟨B, co, hB, hco, hrel⟩ := s.rh.live 1 wts0 hov
        have hB0 : η'.blk 1 = some (1, 0) := (s.le.blk 1 (1, 0) rfl).1
        rw [hB0] at hB; cases hB
        exact rel_same hT.2 hco hrel
      · refine s.fr.keep k hk (fun hi => ?_)
        obtain ⟨b, B, hb, hB, rfl⟩ := hi
        cases ho : H2.get b with
        | none => exact hb ho
        | some o =>
          rcases H2_get ho with ⟨rfl, _⟩ | ⟨rfl, _⟩
          · cases hB; exact h0 rfl
          · cases hB; exact h1 rfl
  · cases hr

end Go.Proofs.YtmnaddlniaklcaaGreatDoor
