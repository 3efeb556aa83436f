/- Part of ReportRatio. -/
import Derived.Test.YtedpaajpfaoffaaGreatDoorRows
import Derived.Test.YtedpaajpfaoffaaGreatDoorQpB
import Derived.Test.YtedpaajpfaoffaaGreatDoorBase
import Derived.WalkKit
import Derived.ProofKit
import Derived.OpenShut
import Derived.Deep.Slices
import Derived.ChangeSame
import Derived.Lib.SmallJoins
import Derived.LaidMore
import Derived.Stop.Joined
import Derived.HandedShaped
set_option maxRecDepth 100000
namespace Go.Proofs.YtedpaajpfaoffaaGreatDoor
open Go.ChangeShapes Go.WideShapes Go.ChangeAt Go.RowKit Go.WideMaps Go.WideElems
theorem own_knob : ownKnob Tryz.prog.godebug = none := by kernel_rfl
theorem laid_out : laidOutB Tryz.prog = true := by kernel_rfl
theorem mixed : Tryz.prog.follows .mixedOrders = true := by kernel_rfl
theorem noNumB : Tryz.prog.funcs.toList.all (fun fn => !(fn.name == "runtime.NumGoroutine")) = true := by kernel_rfl
theorem noNum : Ev.NoNum Tryz.prog := fun f fn hf => by
  have h := List.all_eq_true.1 noNumB fn (by
    rw [← Array.getElem?_toList] at hf
    exact List.mem_of_getElem? hf)
  simpa using h
noncomputable def nG : Nat := Tryz.prog.globals.size
inductive Lt where
  | i (k : IntKind) (n : Int)
  | s (l : List UInt8)
def Lt.val : Lt → Value
  | .i k n => .int k n
  | .s l => .string ⟨l.toArray⟩
def Lt.at_ : Lt → Ev.At
  | .i k n => .int k n
  | .s l => .str l
def Lt.lit : Lt → DataW Unit
  | .i k n => .lit (.int k n)
  | .s l => .lit (.string l)
structure TabD where
  b : Nat
  t : Nat
  l : List Lt
def TabG (W : World) (x : TabD) : Prop := W.heap[x.b]? = some (.cells ⟨x.l.map Lt.val⟩ x.t (0, 0))
def TabsG (W : World) (T : List TabD) : Prop := ∀ x ∈ T, TabG W x
theorem TabG.touch {W W' : World} {x : TabD} (h : TabG W x) (ht : Touch [] W W') : TabG W' x := by
  unfold TabG at h ⊢
  rw [ht.block x.b (Array.getElem?_eq_some_iff.1 h).1 (by simp)]; exact h
theorem TabsG.touch {W W' : World} {T : List TabD} (h : TabsG W T) (ht : Touch [] W W') : TabsG W' T := fun x hx => (h x hx).touch ht
theorem chunks {α : Type} (M : Nat) : ∀ (L : List (List α)) (cs : List α), cs.length = L.length * M → (∀ (i : Nat) (l : List α), L[i]? = some l → (cs.drop (i * M)).take M = l) → cs = L.flatten
  | [], cs, hl, _ => by
    simp at hl
    simp [hl]
  | l :: L, cs, hl, h => by
    have h0 := h 0 l rfl
    rw [Nat.zero_mul, List.drop_zero] at h0
    have ih := chunks M L (cs.drop M) (by rw [List.length_drop, hl, List.length_cons, Nat.add_mul]; omega) (fun i l' hi => by
      have := h (i + 1) l' hi
      rw [List.drop_drop]
      rw [Nat.add_mul, Nat.one_mul] at this
      rw [Nat.add_comm M]; exact this)
    rw [List.flatten_cons, ← ih, ← h0, List.take_append_drop]
theorem nums_of {W : World} {t e N m : Nat} {k : IntKind} {l : List Int} {cs : List Value} {ps : List MemPlace} (hu : Tryz.prog.underlying t = some (.array N e)) (he : Tryz.prog.underlying e = some (.int k)) (hc : Tryz.prog.cellsOf e = 1) (ht : Tryz.prog.cellsOf t = N)
    (hl : l.length = N) (hd : DataW.trod (fun _ => ()) Tryz.prog W 0 (fun _ => true) false m t cs = some (.agg (l.map (fun n => .lit (.int k n))), ps)) : cs = (l.map (Lt.i k)).map Lt.val := by
  obtain ⟨xs, m1, _, hx1, hlen, hn3, hel⟩ := DataW.trod_array hu hd
  simp only [Prod.mk.injEq, DataW.agg.injEq] at hx1
  have key := chunks 1 (l.map fun n => [Value.int k n]) cs (by rw [hlen, ht]; simp [hl]) (fun i c hi => by
    rw [List.getElem?_map] at hi
    cases hli : l[i]? with
    | none => rw [hli] at hi; cases hi
    | some n =>
      rw [hli] at hi; cases hi
      have hiN : i < N := by rw [← hl]; exact (List.getElem?_eq_some_iff.1 hli).1
      have h0 := hel i hiN
      rw [hc] at h0
      have hxi : xs[i]? = some xs[i] := List.getElem?_eq_getElem (by omega)
      rw [hxi] at h0
      obtain ⟨k', e1, e2, _⟩ := DataW.trod_int he h0
      have hm : (xs[i]?).map (fun x => x.1) = (l.map (fun n => (DataW.lit (.int k n) : DataW Unit)))[i]? := by rw [hx1.1, List.getElem?_map]
      rw [hxi, List.getElem?_map, hli, e2] at hm
      simp at hm
      subst hm
      exact e1)
  rw [key]
  clear key hl hd hx1 hlen hn3 hel
  induction l with
  | nil => rfl
  | cons a l ih => simp [Lt.val] at ih ⊢; exact ih
theorem texts_of {W : World} {t e N m : Nat} {l : List (List UInt8)} {cs : List Value} {ps : List MemPlace} (hu : Tryz.prog.underlying t = some (.array N e)) (he : Tryz.prog.underlying e = some .string) (hc : Tryz.prog.cellsOf e = 1) (ht : Tryz.prog.cellsOf t = N)
    (hl : l.length = N) (hd : DataW.trod (fun _ => ()) Tryz.prog W 0 (fun _ => true) false m t cs = some (.agg (l.map (fun n => .lit (.string n))), ps)) : cs = (l.map Lt.s).map Lt.val := by
  obtain ⟨xs, m1, _, hx1, hlen, hn3, hel⟩ := DataW.trod_array hu hd
  simp only [Prod.mk.injEq, DataW.agg.injEq] at hx1
  have key := chunks 1 (l.map fun n => [Value.string ⟨n.toArray⟩]) cs (by rw [hlen, ht]; simp [hl]) (fun i c hi => by
    rw [List.getElem?_map] at hi
    cases hli : l[i]? with
    | none => rw [hli] at hi; cases hi
    | some n =>
      rw [hli] at hi; cases hi
      have hiN : i < N := by rw [← hl]; exact (List.getElem?_eq_some_iff.1 hli).1
      have h0 := hel i hiN
      rw [hc] at h0
      have hxi : xs[i]? = some xs[i] := List.getElem?_eq_getElem (by omega)
      rw [hxi] at h0
      obtain ⟨k', e1, e2, _⟩ := DataW.trod_string he h0
      have hm : (xs[i]?).map (fun x => x.1) = (l.map (fun n => (DataW.lit (.string n) : DataW Unit)))[i]? := by rw [hx1.1, List.getElem?_map]
      rw [hxi, List.getElem?_map, hli, e2] at hm
      simp at hm
      subst hm
      exact e1)
  rw [key]
  clear key hl hd hx1 hlen hn3 hel
  induction l with
  | nil => rfl
  | cons a l ih => simp [Lt.val] at ih ⊢; exact ih
theorem tabG_of {W : World} {name : String} {x : TabD} (hg : Tryz.prog.globalNamed name = some x.b) (hN : x.b < nG)
    (hsh : (((begin Tryz.prog (fun _ _ => 0) default).world.heap[x.b]?).bind Obj.row?).map (fun y => y.2) = some x.t) (hs : W.ShapedOpen Tryz.prog)
    {cs0 : Array Value} (hv0 : World.var? Tryz.prog W name = some cs0) (hcs : cs0.toList = x.l.map Lt.val) : TabG W x := by
  obtain ⟨zero, hz1⟩ : ∃ zero, ((begin Tryz.prog (fun _ _ => 0) default).world.heap[x.b]?).bind Obj.row? = some (zero, x.t) := by
    cases hr : ((begin Tryz.prog (fun _ _ => 0) default).world.heap[x.b]?).bind Obj.row? with
    | none => rw [hr] at hsh; cases hsh
    | some y =>
      rw [hr] at hsh
      obtain ⟨z, t'⟩ := y
      simp at hsh
      exact ⟨z, by rw [hsh]⟩
  obtain ⟨cs, hcs1, hsz, _⟩ := hs.1 x.b zero x.t hN hz1
  have hv : World.var? Tryz.prog W name = some cs := by
    simp only [World.var?, hg, Option.bind_some, hcs1]
  obtain rfl : cs0 = cs := Option.some.inj (hv0.symm.trans hv)
  unfold TabG
  rw [hcs1, ← hcs]
noncomputable def tabO (x : TabD) : Ev.AObj := .cells x.t x.l.length (Ev.wr .nil 0 (x.l.map Lt.at_))
noncomputable def HT : List TabD → Ev.Tr Ev.AObj
  | [] => .nil
  | x :: T => (HT T).put (some (tabO x)) x.b
theorem HT_get : ∀ {T : List TabD} {b : Nat} {o : Ev.AObj}, (HT T).get b = some o → ∃ x ∈ T, x.b = b ∧ tabO x = o
  | [], b, o, h => by unfold HT at h; rw [Ev.Tr.get_nil] at h; cases h
  | x :: T, b, o, h => by
    unfold HT at h
    rw [Ev.Tr.get_put] at h
    by_cases e : b = x.b
    · rw [if_pos e] at h; cases h; exact ⟨x, by simp, e.symm, rfl⟩
    · rw [if_neg e] at h
      obtain ⟨y, hy, h1⟩ := HT_get h
      exact ⟨y, by simp [hy], h1⟩
theorem HT_some : ∀ {T : List TabD} {x : TabD}, x ∈ T → (HT T).get x.b ≠ none
  | y :: T, x, h => by
    unfold HT
    rw [Ev.Tr.get_put]
    by_cases e : x.b = y.b
    · rw [if_pos e]; simp
    · rw [if_neg e]
      rcases List.mem_cons.1 h with h | h
      · exact absurd (congrArg TabD.b h) e
      · exact HT_some h
noncomputable def envG (args : List Value) : Ev.Env := ⟨fun b => if b < nG then some (b, 0) else none, fun _ => 0, fun i => args[i]?, fun _ => none⟩
theorem conc_lt (η : Ev.Env) (a : Lt) : a.at_.conc η = some a.val := by cases a <;> rfl
theorem concs_lts (η : Ev.Env) : ∀ l : List Lt, Ev.concs η (l.map Lt.at_) = some (l.map Lt.val)
  | [] => rfl
  | a :: l => by simp [Ev.concs, conc_lt, concs_lts η l]
theorem relG_of {W : World} {x : TabD} (h : TabG W x) (η : Ev.Env) : ∃ co, W.heap[x.b]? = some co ∧ (tabO x).Rel η x.b (x.b, 0) co :=
  ⟨_, h, _, rfl, rfl, by simp, Ev.Cells.new (concs_lts η x.l) (fun j v hj => by simpa using hj) (by simp)⟩
theorem relG_same {W W' : World} {x : TabD} (h : TabG W x) {η : Ev.Env} {co : Obj} {B : Nat × Nat} (hco : W'.heap[x.b]? = some co) (hr : (tabO x).Rel η x.b B co) : W'.heap[x.b]? = W.heap[x.b]? := by
  obtain ⟨C, rfl, _, hsz, hcells⟩ := hr
  rw [show W.heap[x.b]? = some _ from h, hco]
  congr 2
  apply Array.ext
  · rw [hsz]; simp
  · intro i hi1 hi2
    have hil : i < x.l.length := by rw [← hsz]; exact hi1
    obtain ⟨a, v, h1, h2, h3⟩ := hcells i hil
    rw [Ev.get_wr, if_pos (by simp; exact hil)] at h1
    simp [hil] at h1
    subst h1
    rw [conc_lt] at h2
    cases h2
    rw [Nat.zero_add, Array.getElem?_eq_getElem hi1] at h3
    rw [Option.some.inj h3]
    simp
theorem preG {W : World} {T : List TabD} (h : TabsG W T) (hlt : ∀ x ∈ T, x.b < nG) (args : List Value) {nx nx' : Nat} (hnx : nG ≤ nx) (hargs : args.length ≤ nx) : Ev.Pre (envG args) (HT T).get W (HT T).get nx nx' := by
  refine ⟨fun _ _ h => h, ⟨fun b o hb => ?_, fun b b' B B' hb hb' hB hB' e => ?_⟩, fun b h1 _ => ⟨?_, ?_, rfl⟩⟩
  · obtain ⟨x, hx, rfl, rfl⟩ := HT_get hb
    obtain ⟨co, h1, h2⟩ := relG_of (h x hx) (envG args)
    exact ⟨(x.b, 0), co, by simp [envG, hlt x hx], h1, h2⟩
  · have key : ∀ b B, (envG args).blk b = some B → b = B.1 := fun b B hB => by
      simp only [envG] at hB
      split at hB
      · cases hB; rfl
      · cases hB
    rw [key b B hB, key b' B' hB', e]
  · simp only [envG]
    rw [if_neg (by omega)]
  · exact List.getElem?_eq_none (by omega)
theorem globG (args : List Value) : (envG args).glob Tryz.prog := fun g hg => by
  simp only [envG]
  exact if_pos hg
noncomputable def okT (H : Ev.Tr Ev.AObj) : List TabD → Bool
  | [] => true
  | x :: T => Ev.objB (H.get x.b) (some (tabO x)) && okT H T
theorem okT_of {H : Ev.Tr Ev.AObj} : ∀ {T : List TabD}, okT H T = true → ∀ x ∈ T, H.get x.b = some (tabO x)
  | y :: T, h, x, hx => by
    simp only [okT, Bool.and_eq_true] at h
    rcases List.mem_cons.1 hx with rfl | hx
    · exact Ev.objB_ok h.1
    · exact okT_of h.2 x hx
theorem tabs_pre {H : Ev.Tr Ev.AObj} {T : List TabD} (hT : okT H T = true) (hlt : ∀ x ∈ T, x.b < nG) {η : Ev.Env} {hp : Ev.Hp} {w : World} {nx nx' : Nat} (p : Ev.Pre η hp w H.get nx nx') (hg : η.glob Tryz.prog) : TabsG w T := by
  intro x hx
  obtain ⟨B, co, hB, hw, hrel⟩ := p.rh.live x.b _ (p.ext _ _ (okT_of hT x hx))
  have hB0 := hg x.b (hlt x hx)
  rw [hB0] at hB; cases hB
  obtain ⟨C, rfl, _, hsz, hcells⟩ := hrel
  show w.heap[x.b]? = _
  rw [hw]
  congr 2
  apply Array.ext
  · rw [hsz]; simp
  · intro i hi1 hi2
    have hil : i < x.l.length := by rw [← hsz]; exact hi1
    obtain ⟨a, v, h1, h2, h3⟩ := hcells i hil
    rw [Ev.get_wr, if_pos (by simp; exact hil)] at h1
    simp [hil] at h1
    subst h1
    rw [conc_lt] at h2
    cases h2
    rw [Nat.zero_add, Array.getElem?_eq_getElem hi1] at h3
    rw [Option.some.inj h3]
    simp
theorem callOk_tabs {f : FuncId} {xs : List Ev.V} {x : Ev.V} {H : Ev.Tr Ev.AObj} {nx : Nat} {T : List TabD} (hfn : ∃ fn, Tryz.prog.funcs[f]? = some fn ∧ fn.body.isSome = true) (hT : okT H T = true) (hlt : ∀ x ∈ T, x.b < nG)
    (h : ∀ (η : Ev.Env) (hp : Ev.Hp) (w : World) (cargs : List Value), (∀ b o, H.get b = some o → hp b = some o) → Ev.RH η hp w → Ev.VL η xs cargs → TabsG w T → ∃ cv, x.conc η = some cv ∧ Calls Tryz.prog f ⟨cargs⟩ w (fun e w' => e = .returned cv ∧ Touch [] w w')) : Ev.CallOk Tryz.prog f xs H nx x H nx := by
  refine ⟨hfn, Ev.Dm.refl _ _, fun η hp w cargs p hvl hg => ?_⟩
  obtain ⟨cv, hcv, hc⟩ := h η hp w cargs p.ext p.rh hvl (tabs_pre hT hlt p hg)
  refine hc.mono ?_
  rintro e w' ⟨rfl, t⟩
  have keep : ∀ k, k < w.heap.size → w'.heap[k]? = w.heap[k]? := fun k hk => t.block k hk (by simp)
  refine ⟨cv, η, rfl, hcv, .refl η, fun _ _ => ⟨rfl, rfl, rfl⟩, ?_, fun k hk => ?_, t.os, t.tape, t.output, t.size, fun k hk _ => keep k hk⟩
  · rw [Ev.ovr_same p.ext]
    refine ⟨fun b o hb => ?_, p.rh.inj⟩
    obtain ⟨B, co, h1, h2, h3⟩ := p.rh.live b o hb
    exact ⟨B, co, h1, by rw [keep _ (Array.getElem?_eq_some_iff.1 h2).1]; exact h2, h3⟩
  · rw [Ev.ovr_same p.ext] at hk; exact .inl hk
theorem handed {H : Type} {enc : TypeId × Value → H} {a : Assume} {os : Os} {f : FuncId} {fn : Func} {s : ChangeSpec} {conds : List PathCond} {apart fresh handsOn again : Bool} {X : World → Array Value → Prop}
    (hX : ∀ (w w' : World) (args : Array Value), w.heap = w'.heap → X w args → X w' args) (started : os.Started) (noInit : Tryz.checked.prog.inits.idxOf? f = none) (hfn : Tryz.checked.prog.funcs[f]? = some fn)
    (witness : ∃ (w : World) (tape : Tape) (i : Input), w.os = os ∧ (w.forCall tape i).Shaped Tryz.checked.prog ∧ i.vars = [] ∧ Input.okWide Tryz.checked.prog (w.forCall tape i) .any w.heap.size f i ∧
      ((s.pre enc Tryz.checked.prog fn conds apart (w.forCall tape i).memory i.args ∧ X (w.forCall tape i).memory i.args) ∧ sizedMet enc Tryz.checked.prog fn (OpenSpec.ofChange s) apart (w.forCall tape i).memory i.args) ∧ a.holds Tryz.checked.prog (lone (Frame.enter Tryz.checked.prog f i.args .normal) [] (w.forCall tape i)))
    (contract : ∀ (W : World) (base : Nat) (args : Array Value) (ds gs : List (DataW H)) (before : List MemPlace),
      (∀ (j : Nat) t v, fn.params[j]? = some t → args[j]? = some v → Value.okWide Tryz.checked.prog W .any base t v) → DataW.Whole enc Tryz.checked.prog fn.params.toList s.vars apart W args.toList ds gs before → X W args → W.ShapedOpen Tryz.checked.prog →
      Calls Tryz.checked.prog f args W fun e W' => ∃ v, e = .returned v ∧ s.post enc Tryz.checked.prog fn apart fresh handsOn again W args v W') :
    ReturnsInHanded a Tryz.checked os f .any (fun w args => (s.pre enc Tryz.checked.prog fn conds apart w args ∧ X w args) ∧ sizedMet enc Tryz.checked.prog fn (OpenSpec.ofChange s) apart w args) (s.post enc Tryz.checked.prog fn apart fresh handsOn again) := by
  refine returnsInHanded_of_calls own_knob started noInit witness (fun w tape i _ shape _ ok0 pre0 _ => ?_)
  obtain ⟨_, _, _, fn1, hfn1, _, _, _, _, hvals⟩ := ok0
  obtain rfl : fn1 = fn := Option.some.inj (hfn1.symm.trans hfn)
  obtain ⟨⟨⟨ds, gs, before, whole, _⟩, hx⟩, _⟩ := pre0
  have whole1 := DataW.Whole.of_heap (w' := w.forCall tape i) (by rfl) whole
  refine (contract (w.forCall tape i) w.heap.size i.args ds gs before hvals whole1 (hX _ _ _ (by rfl) hx) shape).mono ?_
  rintro e W' ⟨v, rfl, post⟩
  exact ChangeSpec.post_blind post
end Go.Proofs.YtedpaajpfaoffaaGreatDoor
