/- Tables of numbers (package-level variables), as the world of a call holds them; how a law that the quick interpreter answers is proved of every world that holds them. -/
import Derived.Test.YtphpkalbbmlgoaaGreatDoorRows
import Derived.Test.YtphpkalbbmlgoaaGreatDoorLoE
import Derived.Test.YtphpkalbbmlgoaaGreatDoorQpB
import Derived.Test.YtphpkalbbmlgoaaGreatDoorBase
import Derived.WalkKit
import Derived.ProofKit
import Derived.OpenShut
import Derived.Deep.Slices
import Derived.ChangeSame
import Derived.Lib.SmallJoins
import Derived.LaidMore
import Derived.Stop.Joined
import Derived.HandedShaped
namespace Go.Proofs.YtphpkalbbmlgoaaGreatDoor
open Go.ChangeShapes Go.WideShapes Go.ChangeAt Go.RowKit Go.WideMaps Go.WideElems

theorem noNum : Ev.NoNum Tryz.prog := fun f fn hf => by
  have h := List.all_eq_true.1 noNumB fn (by
    rw [← Array.getElem?_toList] at hf
    exact List.mem_of_getElem? hf)
  simpa using h

noncomputable def nG : Nat := Tryz.prog.globals.size

structure TabD where
  b : Nat
  t : Nat
  k : IntKind
  l : List Int

def TabG (W : World) (x : TabD) : Prop := W.heap[x.b]? = some (.cells ⟨x.l.map (Value.int x.k)⟩ x.t (0, 0))

def TabsG (W : World) (T : List TabD) : Prop := ∀ x ∈ T, TabG W x

theorem TabG.touch {W W' : World} {x : TabD} (h : TabG W x) (ht : Touch [] W W') : TabG W' x := by
  unfold TabG at h ⊢
  rw [ht.block x.b (Array.getElem?_eq_some_iff.1 h).1 (by simp)]; exact h

theorem TabsG.touch {W W' : World} {T : List TabD} (h : TabsG W T) (ht : Touch [] W W') : TabsG W' T := fun x hx => (h x hx).touch ht

theorem chunks {α : Type} (M : Nat) : ∀ (L : List (List α)) (cs : List α), cs.length = L.length * M → (∀ (i : Nat) (l : List α), L[i]? = some l → (cs.drop (i * M)).take M = l) → cs = L.flatten
  | [], cs, hl, _ => by
    simp at hl
    simp [hl]
  | l :: L, cs, hl, h => by
    have h0 := h 0 l rfl
    rw [Nat.zero_mul, List.drop_zero] at h0
    have ih := chunks M L (cs.drop M) (by rw [List.length_drop, hl, List.length_cons, Nat.add_mul]; omega) (fun i l' hi => by
      have := h (i + 1) l' hi
      rw [List.drop_drop]
      rw [Nat.add_mul, Nat.one_mul] at this
      rw [Nat.add_comm M]; exact this)
    rw [List.flatten_cons, ← ih, ← h0, List.take_append_drop]

theorem flat_one (k : IntKind) : ∀ l : List Int, (l.map (fun n => [Value.int k n])).flatten = l.map (Value.int k)
  | [] => rfl
  | a :: l => by simp [flat_one k l]

theorem nums_of {W : World} {t e N m : Nat} {k : IntKind} {l : List Int} {cs : List Value} {ps : List MemPlace} (hu : Tryz.prog.underlying t = some (.array N e)) (he : Tryz.prog.underlying e = some (.int k)) (hc : Tryz.prog.cellsOf e = 1) (ht : Tryz.prog.cellsOf t = N)
    (hl : l.length = N) (hd : DataW.trod (fun _ => ()) Tryz.prog W 0 (fun _ => true) false m t cs = some (.agg (l.map (fun n => .lit (.int k n))), ps)) : cs = l.map (Value.int k) := by
  obtain ⟨xs, m1, _, hx1, hlen, hn3, hel⟩ := DataW.trod_array hu hd
  simp only [Prod.mk.injEq, DataW.agg.injEq] at hx1
  have key := chunks 1 (l.map fun n => [Value.int k n]) cs (by rw [hlen, ht]; simp [hl]) (fun i c hi => by
    rw [List.getElem?_map] at hi
    cases hli : l[i]? with
    | none => rw [hli] at hi; cases hi
    | some n =>
      rw [hli] at hi; cases hi
      have hiN : i < N := by rw [← hl]; exact (List.getElem?_eq_some_iff.1 hli).1
      have h0 := hel i hiN
      rw [hc] at h0
      have hxi : xs[i]? = some xs[i] := List.getElem?_eq_getElem (by omega)
      rw [hxi] at h0
      obtain ⟨k', e1, e2, _⟩ := DataW.trod_int he h0
      have hm : (xs[i]?).map (fun x => x.1) = (l.map (fun n => (DataW.lit (.int k n) : DataW Unit)))[i]? := by rw [hx1.1, List.getElem?_map]
      rw [hxi, List.getElem?_map, hli, e2] at hm
      simp at hm
      subst hm
      exact e1)
  rw [key]
  exact flat_one k l

theorem rows_of {W : World} {t e e2 N M m : Nat} {k : IntKind} {L : List (List Int)} {cs : List Value} {ps : List MemPlace} (hu : Tryz.prog.underlying t = some (.array N e)) (hu2 : Tryz.prog.underlying e = some (.array M e2)) (he : Tryz.prog.underlying e2 = some (.int k)) (hc : Tryz.prog.cellsOf e2 = 1) (ht2 : Tryz.prog.cellsOf e = M) (ht : Tryz.prog.cellsOf t = N * M)
    (hL : L.length = N) (hl : ∀ l ∈ L, l.length = M) (hd : DataW.trod (fun _ => ()) Tryz.prog W 0 (fun _ => true) false m t cs = some (.agg (L.map (fun l => .agg (l.map (fun n => .lit (.int k n))))), ps)) : cs = L.flatten.map (Value.int k) := by
  obtain ⟨xs, m1, _, hx1, hlen, hn3, hel⟩ := DataW.trod_array hu hd
  simp only [Prod.mk.injEq, DataW.agg.injEq] at hx1
  have key := chunks M (L.map fun l => l.map (Value.int k)) cs (by rw [hlen, ht]; simp [hL]) (fun i c hi => by
    rw [List.getElem?_map] at hi
    cases hli : L[i]? with
    | none => rw [hli] at hi; cases hi
    | some l =>
      rw [hli] at hi; cases hi
      have hiN : i < N := by rw [← hL]; exact (List.getElem?_eq_some_iff.1 hli).1
      have h0 := hel i hiN
      rw [ht2] at h0
      have hxi : xs[i]? = some xs[i] := List.getElem?_eq_getElem (by omega)
      rw [hxi] at h0
      have hm : (xs[i]?).map (fun x => x.1) = (L.map (fun l => (DataW.agg (l.map (fun n => .lit (.int k n))) : DataW Unit)))[i]? := by rw [hx1.1, List.getElem?_map]
      rw [hxi, List.getElem?_map, hli] at hm
      simp only [Option.map_some, Option.some.injEq] at hm
      have h1 : xs[i] = (DataW.agg (l.map (fun n => .lit (.int k n))), xs[i].2) := by rw [← hm]
      rw [h1] at h0
      exact nums_of hu2 he hc ht2 (hl l (List.mem_of_getElem? hli)) h0)
  rw [key, List.map_flatten]

theorem tabG_of {W : World} {name : String} {x : TabD} (hg : Tryz.prog.globalNamed name = some x.b) (hN : x.b < nG)
    (hsh : (((begin Tryz.prog (fun _ _ => 0) default).world.heap[x.b]?).bind Obj.row?).map (fun y => y.2) = some x.t) (hs : W.ShapedOpen Tryz.prog)
    {cs0 : Array Value} (hv0 : World.var? Tryz.prog W name = some cs0) (hcs : cs0.toList = x.l.map (Value.int x.k)) : TabG W x := by
  obtain ⟨zero, hz1⟩ : ∃ zero, ((begin Tryz.prog (fun _ _ => 0) default).world.heap[x.b]?).bind Obj.row? = some (zero, x.t) := by
    cases hr : ((begin Tryz.prog (fun _ _ => 0) default).world.heap[x.b]?).bind Obj.row? with
    | none => rw [hr] at hsh; cases hsh
    | some y =>
      rw [hr] at hsh
      obtain ⟨z, t'⟩ := y
      simp at hsh
      exact ⟨z, by rw [hsh]⟩
  obtain ⟨cs, hcs1, hsz, _⟩ := hs.1 x.b zero x.t hN hz1
  have hv : World.var? Tryz.prog W name = some cs := by
    simp only [World.var?, hg, Option.bind_some, hcs1]
  obtain rfl : cs0 = cs := Option.some.inj (hv0.symm.trans hv)
  unfold TabG
  rw [hcs1, ← hcs]

noncomputable def tabO (x : TabD) : Ev.AObj := .cells x.t x.l.length (Ev.wr .nil 0 (x.l.map (Ev.At.int x.k)))

noncomputable def HT : List TabD → Ev.Tr Ev.AObj
  | [] => .nil
  | x :: T => (HT T).put (some (tabO x)) x.b

theorem HT_get : ∀ {T : List TabD} {b : Nat} {o : Ev.AObj}, (HT T).get b = some o → ∃ x ∈ T, x.b = b ∧ tabO x = o
  | [], b, o, h => by unfold HT at h; rw [Ev.Tr.get_nil] at h; cases h
  | x :: T, b, o, h => by
    unfold HT at h
    rw [Ev.Tr.get_put] at h
    by_cases e : b = x.b
    · rw [if_pos e] at h; cases h; exact ⟨x, by simp, e.symm, rfl⟩
    · rw [if_neg e] at h
      obtain ⟨y, hy, h1⟩ := HT_get h
      exact ⟨y, by simp [hy], h1⟩

theorem HT_some : ∀ {T : List TabD} {x : TabD}, x ∈ T → (HT T).get x.b ≠ none
  | y :: T, x, h => by
    unfold HT
    rw [Ev.Tr.get_put]
    by_cases e : x.b = y.b
    · rw [if_pos e]; simp
    · rw [if_neg e]
      rcases List.mem_cons.1 h with h | h
      · exact absurd (congrArg TabD.b h) e
      · exact HT_some h

noncomputable def envG (args : List Value) : Ev.Env := ⟨fun b => if b < nG then some (b, 0) else none, fun _ => 0, fun i => args[i]?, fun _ => none⟩

theorem concs_ints (η : Ev.Env) (k : IntKind) : ∀ l : List Int, Ev.concs η (l.map (Ev.At.int k)) = some (l.map (Value.int k))
  | [] => rfl
  | n :: l => by simp [Ev.concs, Ev.At.conc, concs_ints η k l]

theorem relG_of {W : World} {x : TabD} (h : TabG W x) (η : Ev.Env) : ∃ co, W.heap[x.b]? = some co ∧ (tabO x).Rel η x.b (x.b, 0) co :=
  ⟨_, h, _, rfl, rfl, by simp, Ev.Cells.new (concs_ints η x.k x.l) (fun j v hj => by simpa using hj) (by simp)⟩

theorem relG_same {W W' : World} {x : TabD} (h : TabG W x) {η : Ev.Env} {co : Obj} {B : Nat × Nat} (hco : W'.heap[x.b]? = some co) (hr : (tabO x).Rel η x.b B co) : W'.heap[x.b]? = W.heap[x.b]? := by
  obtain ⟨C, rfl, _, hsz, hcells⟩ := hr
  rw [show W.heap[x.b]? = some _ from h, hco]
  congr 2
  apply Array.ext
  · rw [hsz]; simp
  · intro i hi1 hi2
    have hil : i < x.l.length := by rw [← hsz]; exact hi1
    obtain ⟨a, v, h1, h2, h3⟩ := hcells i hil
    rw [Ev.get_wr, if_pos (by simp; exact hil)] at h1
    simp [hil] at h1
    subst h1
    simp only [Ev.At.conc] at h2
    cases h2
    rw [Nat.zero_add, Array.getElem?_eq_getElem hi1] at h3
    rw [Option.some.inj h3]
    simp

theorem preG {W : World} {T : List TabD} (h : TabsG W T) (hlt : ∀ x ∈ T, x.b < nG) (args : List Value) {nx nx' : Nat} (hnx : nG ≤ nx) (hargs : args.length ≤ nx) : Ev.Pre (envG args) (HT T).get W (HT T).get nx nx' := by
  refine ⟨fun _ _ h => h, ⟨fun b o hb => ?_, fun b b' B B' hb hb' hB hB' e => ?_⟩, fun b h1 _ => ⟨?_, ?_, rfl⟩⟩
  · obtain ⟨x, hx, rfl, rfl⟩ := HT_get hb
    obtain ⟨co, h1, h2⟩ := relG_of (h x hx) (envG args)
    exact ⟨(x.b, 0), co, by simp [envG, hlt x hx], h1, h2⟩
  · have key : ∀ b B, (envG args).blk b = some B → b = B.1 := fun b B hB => by
      simp only [envG] at hB
      split at hB
      · cases hB; rfl
      · cases hB
    rw [key b B hB, key b' B' hB', e]
  · simp only [envG]
    rw [if_neg (by omega)]
  · exact List.getElem?_eq_none (by omega)

theorem globG (args : List Value) : (envG args).glob Tryz.prog := fun g hg => by
  simp only [envG]
  exact if_pos hg

noncomputable def okT (H : Ev.Tr Ev.AObj) : List TabD → Bool
  | [] => true
  | x :: T => Ev.objB (H.get x.b) (some (tabO x)) && okT H T

theorem okT_of {H : Ev.Tr Ev.AObj} : ∀ {T : List TabD}, okT H T = true → ∀ x ∈ T, H.get x.b = some (tabO x)
  | y :: T, h, x, hx => by
    simp only [okT, Bool.and_eq_true] at h
    rcases List.mem_cons.1 hx with rfl | hx
    · exact Ev.objB_ok h.1
    · exact okT_of h.2 x hx

noncomputable def okLaw (T : List TabD) (r : Ev.CR) : Bool := match r with
  | .ok (.b true) H _ => okT H T
  | _ => false

theorem law_of {T : List TabD} (hlt : ∀ x ∈ T, x.b < nG) {hk : Ev.Hook} (hh : Ev.HookOk Tryz.prog hk) {n f : Nat} {args : List Ev.FV} {xs : List Ev.V} {nx : Nat} (hxs : Ev.VsOf args = some xs) (hr : okLaw T ((Ev.evQ Tryz.prog hk n).c f args (HT T) nx) = true) {vs : List Value}
    (hvl : Ev.VL (envG vs) xs vs) (hnx : nG ≤ nx) (hargs : vs.length ≤ nx) {W : World} (hT : TabsG W T) : Calls Tryz.prog f ⟨vs⟩ W (fun e W' => e = .returned (.bool true) ∧ Touch [] W W') := by
  unfold okLaw at hr
  split at hr
  · rename_i H' nx' he
    obtain ⟨x, hx, _, d, hc⟩ := (Ev.evQ_ok noNum mixed hh n).c _ _ _ _ _ _ _ he xs hxs
    cases hx
    refine (hc (envG vs) (HT T).get W vs (preG hT hlt vs hnx hargs) hvl (globG vs)).mono ?_
    rintro e W' ⟨cv, η', rfl, hv, s⟩
    have hcv : cv = .bool true := by
      have := Ev.one_conc.1 hv
      simp only [Ev.At.conc] at this
      exact (Option.some.inj this).symm
    subst hcv
    refine ⟨rfl, s.fr.os, s.fr.tape, s.fr.output, s.fr.size, fun k hk _ => ?_⟩
    by_cases h0 : ∃ x ∈ T, x.b = k
    · obtain ⟨x, hx, rfl⟩ := h0
      have hov : Ev.ovr (HT T).get (HT T).get H'.get nx nx' x.b = some (tabO x) := by
        rw [Ev.ovr_in (.inl (HT_some hx)), okT_of hr x hx]
      obtain ⟨B, co, hB, hco, hrel⟩ := s.rh.live x.b (tabO x) hov
      have hB0 : η'.blk x.b = some (x.b, 0) := (s.le.blk x.b (x.b, 0) (by simp [envG, hlt x hx])).1
      rw [hB0] at hB; cases hB
      exact relG_same (hT x hx) hco hrel
    · refine s.fr.keep k hk (fun hi => ?_)
      obtain ⟨b, B, hb, hB, rfl⟩ := hi
      cases ho : (HT T).get b with
      | none => exact hb ho
      | some o =>
        obtain ⟨x, hx, rfl, _⟩ := HT_get ho
        have hB0 : (envG vs).blk x.b = some (x.b, 0) := by simp [envG, hlt x hx]
        rw [hB0] at hB; cases hB
        exact h0 ⟨x, hx, rfl⟩
  · cases hr

set_option maxRecDepth 100000 in

theorem handed {H : Type} {enc : TypeId × Value → H} {a : Assume} {os : Os} {f : FuncId} {fn : Func} {s : ChangeSpec} {conds : List PathCond} {apart fresh handsOn again : Bool} {X : World → Array Value → Prop}
    (hX : ∀ (w w' : World) (args : Array Value), w.heap = w'.heap → X w args → X w' args) (started : os.Started) (noInit : Tryz.checked.prog.inits.idxOf? f = none) (hfn : Tryz.checked.prog.funcs[f]? = some fn)
    (witness : ∃ (w : World) (tape : Tape) (i : Input), w.os = os ∧ (w.forCall tape i).Shaped Tryz.checked.prog ∧ i.vars = [] ∧ Input.okWide Tryz.checked.prog (w.forCall tape i) .any w.heap.size f i ∧
      ((s.pre enc Tryz.checked.prog fn conds apart (w.forCall tape i).memory i.args ∧ X (w.forCall tape i).memory i.args) ∧ sizedMet enc Tryz.checked.prog fn (OpenSpec.ofChange s) apart (w.forCall tape i).memory i.args) ∧ a.holds Tryz.checked.prog (lone (Frame.enter Tryz.checked.prog f i.args .normal) [] (w.forCall tape i)))
    (contract : ∀ (W : World) (base : Nat) (args : Array Value) (ds gs : List (DataW H)) (before : List MemPlace),
      (∀ (j : Nat) t v, fn.params[j]? = some t → args[j]? = some v → Value.okWide Tryz.checked.prog W .any base t v) → DataW.Whole enc Tryz.checked.prog fn.params.toList s.vars apart W args.toList ds gs before → X W args → W.ShapedOpen Tryz.checked.prog →
      Calls Tryz.checked.prog f args W fun e W' => ∃ v, e = .returned v ∧ s.post enc Tryz.checked.prog fn apart fresh handsOn again W args v W') :
    ReturnsInHanded a Tryz.checked os f .any (fun w args => (s.pre enc Tryz.checked.prog fn conds apart w args ∧ X w args) ∧ sizedMet enc Tryz.checked.prog fn (OpenSpec.ofChange s) apart w args) (s.post enc Tryz.checked.prog fn apart fresh handsOn again) := by
  refine returnsInHanded_of_calls own_knob started noInit witness (fun w tape i _ shape _ ok0 pre0 _ => ?_)
  obtain ⟨_, _, _, fn1, hfn1, _, _, _, _, hvals⟩ := ok0
  obtain rfl : fn1 = fn := Option.some.inj (hfn1.symm.trans hfn)
  obtain ⟨⟨⟨ds, gs, before, whole, _⟩, hx⟩, _⟩ := pre0
  have whole1 := DataW.Whole.of_heap (w' := w.forCall tape i) (by rfl) whole
  refine (contract (w.forCall tape i) w.heap.size i.args ds gs before hvals whole1 (hX _ _ _ (by rfl) hx) shape).mono ?_
  rintro e W' ⟨v, rfl, post⟩
  exact ChangeSpec.post_blind post

end Go.Proofs.YtphpkalbbmlgoaaGreatDoor

namespace Go.Proofs.YtphpkalbbmlgoaaGreatDoor
open Go.ChangeShapes Go.WideShapes Go.ChangeAt Go.RowKit Go.WideMaps Go.WideElems

def tBlakeInitial : TabD := ⟨1, 734, .u32, [1779033703, 3144134277, 1013904242, 2773480762, 1359893119, 2600822924, 528734635, 1541459225]⟩

theorem tBlakeInitial_laid {H : Type} : (Rows.laid_bandplan_blake_initial : DataW H) = .agg (tBlakeInitial.l.map (fun n => .lit (.int .u32 n))) := rfl

theorem tBlakeInitial_g : Tryz.prog.globalNamed "bandplan/blake.initial" = some 1 := by kernel_rfl

theorem tBlakeInitial_t : (Tryz.prog.globals[1]?).map (·.type) = some 734 := by kernel_rfl

theorem tBlakeInitial_lt : tBlakeInitial.b < nG := of_decide_eq_true (by kernel_rfl)

theorem tBlakeInitial_sh : (((begin Tryz.prog (fun _ _ => 0) default).world.heap[tBlakeInitial.b]?).bind Obj.row?).map (fun y => y.2) = some tBlakeInitial.t := by kernel_rfl

theorem tBlakeInitial_of {W : World} {f : Nat} {ps : List MemPlace} {cs : Array Value} (hs : W.ShapedOpen Tryz.prog) (hv : World.var? Tryz.prog W "bandplan/blake.initial" = some cs) (hd : DataW.trod (fun _ => ()) Tryz.prog W 0 (fun _ => true) false f 734 cs.toList = some (Rows.laid_bandplan_blake_initial, ps)) : TabG W tBlakeInitial := by
  rw [tBlakeInitial_laid] at hd
  exact tabG_of tBlakeInitial_g tBlakeInitial_lt tBlakeInitial_sh hs hv (nums_of (l := tBlakeInitial.l) Tryz.underlying734 Tryz.underlying496 (by kernel_rfl) (by kernel_rfl) rfl hd)

def tScoreWorths : TabD := ⟨2, 778, .i64, [0, 250, 600, 1000]⟩

theorem tScoreWorths_laid {H : Type} : (Rows.laid_bandplan_score_worths : DataW H) = .agg (tScoreWorths.l.map (fun n => .lit (.int .i64 n))) := rfl

theorem tScoreWorths_g : Tryz.prog.globalNamed "bandplan/score.worths" = some 2 := by kernel_rfl

theorem tScoreWorths_t : (Tryz.prog.globals[2]?).map (·.type) = some 778 := by kernel_rfl

theorem tScoreWorths_lt : tScoreWorths.b < nG := of_decide_eq_true (by kernel_rfl)

theorem tScoreWorths_sh : (((begin Tryz.prog (fun _ _ => 0) default).world.heap[tScoreWorths.b]?).bind Obj.row?).map (fun y => y.2) = some tScoreWorths.t := by kernel_rfl

theorem tScoreWorths_of {W : World} {f : Nat} {ps : List MemPlace} {cs : Array Value} (hs : W.ShapedOpen Tryz.prog) (hv : World.var? Tryz.prog W "bandplan/score.worths" = some cs) (hd : DataW.trod (fun _ => ()) Tryz.prog W 0 (fun _ => true) false f 778 cs.toList = some (Rows.laid_bandplan_score_worths, ps)) : TabG W tScoreWorths := by
  rw [tScoreWorths_laid] at hd
  exact tabG_of tScoreWorths_g tScoreWorths_lt tScoreWorths_sh hs hv (nums_of (l := tScoreWorths.l) Tryz.underlying778 Tryz.underlying3 (by kernel_rfl) (by kernel_rfl) rfl hd)

def tBlakeOrderL : List (List Int) := [[0, 1, 2, 3, 4, 5, 6, 7, 8, 9, 10, 11, 12, 13, 14, 15], [14, 10, 4, 8, 9, 15, 13, 6, 1, 12, 0, 2, 11, 7, 5, 3], [11, 8, 12, 0, 5, 2, 15, 13, 10, 14, 3, 6, 7, 1, 9, 4], [7, 9, 3, 1, 13, 12, 11, 14, 2, 6, 5, 10, 4, 0, 15, 8], [9, 0, 5, 7, 2, 4, 10, 15, 14, 1, 11, 12, 6, 8, 3, 13], [2, 12, 6, 10, 0, 11, 8, 3, 4, 13, 7, 5, 15, 14, 1, 9], [12, 5, 1, 15, 14, 13, 4, 10, 0, 7, 6, 3, 9, 2, 8, 11], [13, 11, 7, 14, 12, 1, 3, 9, 5, 0, 15, 4, 8, 6, 2, 10], [6, 15, 14, 9, 11, 3, 0, 8, 12, 2, 13, 7, 1, 4, 10, 5], [10, 2, 8, 4, 7, 6, 1, 5, 15, 11, 9, 14, 3, 12, 13, 0]]

def tBlakeOrder : TabD := ⟨3, 801, .u8, tBlakeOrderL.flatten⟩

theorem tBlakeOrder_laid {H : Type} : (Rows.laid_bandplan_blake_order : DataW H) = .agg (tBlakeOrderL.map (fun l => .agg (l.map (fun n => .lit (.int .u8 n))))) := rfl

theorem tBlakeOrder_g : Tryz.prog.globalNamed "bandplan/blake.order" = some 3 := by kernel_rfl

theorem tBlakeOrder_t : (Tryz.prog.globals[3]?).map (·.type) = some 801 := by kernel_rfl

theorem tBlakeOrder_lt : tBlakeOrder.b < nG := of_decide_eq_true (by kernel_rfl)

theorem tBlakeOrder_sh : (((begin Tryz.prog (fun _ _ => 0) default).world.heap[tBlakeOrder.b]?).bind Obj.row?).map (fun y => y.2) = some tBlakeOrder.t := by kernel_rfl

theorem tBlakeOrder_of {W : World} {f : Nat} {ps : List MemPlace} {cs : Array Value} (hs : W.ShapedOpen Tryz.prog) (hv : World.var? Tryz.prog W "bandplan/blake.order" = some cs) (hd : DataW.trod (fun _ => ()) Tryz.prog W 0 (fun _ => true) false f 801 cs.toList = some (Rows.laid_bandplan_blake_order, ps)) : TabG W tBlakeOrder := by
  rw [tBlakeOrder_laid] at hd
  exact tabG_of tBlakeOrder_g tBlakeOrder_lt tBlakeOrder_sh hs hv (rows_of (L := tBlakeOrderL) Tryz.underlying801 Tryz.underlying800 Tryz.underlying5 (by kernel_rfl) (by kernel_rfl) (by kernel_rfl) rfl (by decide) hd)

def tBitsDebruijn64Tab : TabD := ⟨4, 735, .u8, [0, 1, 56, 2, 57, 49, 28, 3, 61, 58, 42, 50, 38, 29, 17, 4, 62, 47, 59, 36, 45, 43, 51, 22, 53, 39, 33, 30, 24, 18, 12, 5, 63, 55, 48, 27, 60, 41, 37, 16, 46, 35, 44, 21, 52, 32, 23, 11, 54, 26, 40, 15, 34, 20, 31, 10, 25, 14, 19, 9, 13, 8, 7, 6]⟩

theorem tBitsDebruijn64Tab_laid {H : Type} : (Rows.laid_math_bits_deBruijn64tab : DataW H) = .agg (tBitsDebruijn64Tab.l.map (fun n => .lit (.int .u8 n))) := rfl

theorem tBitsDebruijn64Tab_g : Tryz.prog.globalNamed "math/bits.deBruijn64tab" = some 4 := by kernel_rfl

theorem tBitsDebruijn64Tab_t : (Tryz.prog.globals[4]?).map (·.type) = some 735 := by kernel_rfl

theorem tBitsDebruijn64Tab_lt : tBitsDebruijn64Tab.b < nG := of_decide_eq_true (by kernel_rfl)

theorem tBitsDebruijn64Tab_sh : (((begin Tryz.prog (fun _ _ => 0) default).world.heap[tBitsDebruijn64Tab.b]?).bind Obj.row?).map (fun y => y.2) = some tBitsDebruijn64Tab.t := by kernel_rfl

theorem tBitsDebruijn64Tab_of {W : World} {f : Nat} {ps : List MemPlace} {cs : Array Value} (hs : W.ShapedOpen Tryz.prog) (hv : World.var? Tryz.prog W "math/bits.deBruijn64tab" = some cs) (hd : DataW.trod (fun _ => ()) Tryz.prog W 0 (fun _ => true) false f 735 cs.toList = some (Rows.laid_math_bits_deBruijn64tab, ps)) : TabG W tBitsDebruijn64Tab := by
  rw [tBitsDebruijn64Tab_laid] at hd
  exact tabG_of tBitsDebruijn64Tab_g tBitsDebruijn64Tab_lt tBitsDebruijn64Tab_sh hs hv (nums_of (l := tBitsDebruijn64Tab.l) Tryz.underlying735 Tryz.underlying5 (by kernel_rfl) (by kernel_rfl) rfl hd)

def tabs : List TabD := [tBlakeInitial, tScoreWorths, tBlakeOrder, tBitsDebruijn64Tab]

theorem tabs_lt : ∀ x ∈ tabs, x.b < nG := by
  intro x hx
  simp only [tabs, List.mem_cons, List.not_mem_nil, or_false] at hx
  rcases hx with rfl | rfl | rfl | rfl
  · exact tBlakeInitial_lt
  · exact tScoreWorths_lt
  · exact tBlakeOrder_lt
  · exact tBitsDebruijn64Tab_lt

end Go.Proofs.YtphpkalbbmlgoaaGreatDoor
