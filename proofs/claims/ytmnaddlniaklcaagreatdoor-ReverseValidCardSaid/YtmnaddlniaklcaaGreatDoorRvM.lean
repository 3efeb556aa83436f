/- Lists of entrants: how they read, which are valid: reverse.Valid and its specification. -/
import Derived.Test.YtmnaddlniaklcaaGreatDoorBase
import Derived.Maps.Own
import Derived.Maps.OwnOps
import Derived.Test.YtmnaddlniaklcaaGreatDoorProg
import Derived.Test.YtmnaddlniaklcaaGreatDoorChecked
import Derived.WalkKit
import Derived.ProofKit
import Derived.OpenShut
import Derived.ShutString
import Derived.Deep.Slices
import Derived.Deep.Fields
import Derived.ChangeSame
import Derived.Lib.SmallJoins
import Derived.LaidMore
import Derived.Stop.Joined
namespace Go.Proofs.YtmnaddlniaklcaaGreatDoor
open Go.RowKit Go.ChangeMaps

/-- Block b is a map with just the entries of f. -/
def IMap (w : World) (b : Nat) (f : Int → Option Value) : Prop :=
  ∃ es clock, w.heap[b]? = some (.map es clock) ∧ (∀ x ∈ es.toList, ∃ n, x.key = .int .i64 n) ∧ (es.toList.map (·.key)).Nodup ∧ ∀ n v, f n = some v ↔ ∃ x ∈ es.toList, x.key = .int .i64 n ∧ x.val = v
section
variable {w w' : World} {b : Nat} {f : Int → Option Value} {P : Program} {t k e : TypeId} {L : List Nat}
theorem IMap.lt (h : IMap w b f) : b < w.heap.size := by
  obtain ⟨es, clock, hb, _⟩ := h
  exact (Array.getElem?_eq_some_iff.1 hb).1
theorem IMap.touch (h : IMap w b f) (ht : Touch L w w') (hb : b ∉ L) : IMap w' b f := by
  have hlt := h.lt
  obtain ⟨es, clock, h1, h2⟩ := h
  exact ⟨es, clock, (ht.block b hlt hb).trans h1, h2⟩
theorem IMap.touch0 (h : IMap w b f) (ht : Touch [] w w') : IMap w' b f := h.touch ht (by simp)
theorem IMap.new (w : World) : IMap (w.alloc (.map #[] 0)) w.heap.size (fun _ => none) := ⟨#[], 0, heap_alloc_new w _, by simp, by simp, by simp⟩
theorem run_makeMap_n (ht : P.underlying t = some (.map k e)) (n : Int) (w : World) : (Instr.makeMap t (some (.int .i64 n))).run P w = .ok (.map (some w.heap.size)) (w.alloc (.map #[] 0)) := by
  simp only [Instr.makeMap, Sem.run_bind, run_underlying ht, Result.andThen, asInt, asIntOf, Sem.run_pure]
  rfl
theorem IMap.congr {g : Int → Option Value} (h : IMap w b f) (e : ∀ n, f n = g n) : IMap w b g := by
  have : f = g := funext e
  rwa [← this]
theorem IMap.lookup (h : IMap w b f) (ht : P.underlying t = some (.map k e)) (hk : P.underlying k = some (.int .i64)) {z : Value} (hz : (zeroValue e).run P w = .ok z w) (n : Int) (c : Bool) :
    (Instr.lookup t (.map (some b)) (.int .i64 n) c).run P w = .ok (if c then .tuple #[(f n).getD z, .bool (f n).isSome] else (f n).getD z) w := by
  obtain ⟨es, clock, hb, hkeys, hnd, hf⟩ := h
  have hK : MapKept.IsKey (.int .i64) (.int .i64 n) := by simp [MapKept.IsKey]
  have hall : ∀ x ∈ es.toList, MapKept.IsKey (.int .i64) x.key := fun x hx => by obtain ⟨m, e⟩ := hkeys x hx; rw [e]; simp [MapKept.IsKey]
  rcases MapKept.findNow_spec hK es.toList 0 hall with ⟨h1, h2⟩ | ⟨j, e0, h1, h2, h3⟩
  · have hn : f n = none := by
      cases hfn : f n with
      | none => rfl
      | some v => obtain ⟨x, hx, hxk, _⟩ := (hf n v).1 hfn; exact absurd hxk (h2 x hx)
    rw [hn]
    simp [Instr.lookup, run_underlying ht, MapKept.run_getObj_map hb, MapKept.run_checkKey hk hK, MapKept.run_findKey hk h1, hz, Result.andThen]
  · have hn : f n = some e0.val := (hf n e0.val).2 ⟨e0, List.mem_of_getElem? h2, h3, rfl⟩
    rw [hn]
    simp [Instr.lookup, run_underlying ht, MapKept.run_getObj_map hb, MapKept.run_checkKey hk hK, MapKept.run_findKey hk h1, Result.andThen]
theorem IMap.update (h : IMap w b f) (ht : P.underlying t = some (.map k e)) (hk : P.underlying k = some (.int .i64)) (n : Int) (v : Value) :
    ∃ w', (Instr.mapUpdate t (.map (some b)) (.int .i64 n) v).run P w = .ok () w' ∧ IMap w' b (fun m => if m = n then some v else f m) ∧ Touch [b] w w' := by
  obtain ⟨es, clock, hb, hkeys, hnd, hf⟩ := h
  have hK : MapKept.IsKey (.int .i64) (.int .i64 n) := by simp [MapKept.IsKey]
  have hall : ∀ x ∈ es.toList, MapKept.IsKey (.int .i64) x.key := fun x hx => by obtain ⟨m, e⟩ := hkeys x hx; rw [e]; simp [MapKept.IsKey]
  have hlt : b < w.heap.size := (Array.getElem?_eq_some_iff.1 hb).1
  have hset : ∀ o, (setBlock w b o).heap[b]? = some o := fun o => by simp [setBlock, hlt]
  have htou : ∀ o, Touch [b] w (setBlock w b o) := fun o => ⟨rfl, rfl, rfl, by simp [setBlock], fun i hi hn => by simp at hn; simp [setBlock, Ne.symm hn]⟩
  rcases MapKept.findNow_spec hK es.toList 0 hall with ⟨h1, h2⟩ | ⟨j, e0, h1, h2, h3⟩
  · refine ⟨setBlock w b (.map (es.push ⟨.int .i64 n, v, clock⟩) (clock + 1)), ?_, ⟨_, _, hset _, ?_, ?_, ?_⟩, htou _⟩
    · simp [Instr.mapUpdate, run_underlying ht, MapKept.run_getObj_map hb, MapKept.run_checkKey hk hK, MapKept.run_findKey hk h1, MapKept.run_setObj_map _ hb, Result.andThen, setBlock]
    · intro x hx
      simp only [Array.toList_push, List.mem_append, List.mem_singleton] at hx
      rcases hx with hx | rfl
      · exact hkeys x hx
      · exact ⟨n, rfl⟩
    · simp only [Array.toList_push, List.map_append, List.map_cons, List.map_nil]
      rw [List.nodup_append]
      refine ⟨hnd, by simp, fun a ha c hc => ?_⟩
      simp at hc
      subst hc
      obtain ⟨x, hx, rfl⟩ := List.mem_map.1 ha
      exact h2 x hx
    · intro m u
      simp only [Array.toList_push, List.mem_append, List.mem_singleton]
      by_cases hm : m = n
      · subst hm
        rw [if_pos rfl]
        refine ⟨fun h => ?_, fun ⟨x, hx, hxk, hxv⟩ => ?_⟩
        · cases h; exact ⟨_, .inr rfl, rfl, rfl⟩
        · rcases hx with hx | rfl
          · exact absurd hxk (h2 x hx)
          · rw [← hxv]
      · rw [if_neg hm, hf m u]
        refine ⟨fun ⟨x, hx, r⟩ => ⟨x, .inl hx, r⟩, fun ⟨x, hx, hxk, hxv⟩ => ?_⟩
        rcases hx with hx | rfl
        · exact ⟨x, hx, hxk, hxv⟩
        · simp at hxk; exact absurd hxk.symm hm
  · have hj : es[j]? = some e0 := by rw [← Array.getElem?_toList]; exact h2
    have hjl : j < es.toList.length := (List.getElem?_eq_some_iff.1 h2).1
    refine ⟨setBlock w b (.map (es.modify j fun x => { x with key := .int .i64 n, val := v }) clock), ?_, ⟨_, _, hset _, ?_, ?_, ?_⟩, htou _⟩
    · simp [Instr.mapUpdate, run_underlying ht, MapKept.run_getObj_map hb, MapKept.run_checkKey hk hK, MapKept.run_findKey hk h1, hj, h3, MapKept.run_keyThatStays hK, MapKept.run_setObj_map _ hb, Result.andThen, setBlock]
    · intro x hx
      rw [Array.toList_modify] at hx
      obtain ⟨i, hi, rfl⟩ := List.getElem_of_mem hx
      rw [List.getElem_modify]
      split
      · exact ⟨n, rfl⟩
      · exact hkeys _ (List.getElem_mem _)
    · have : (es.modify j fun x => { x with key := .int .i64 n, val := v }).toList.map (·.key) = es.toList.map (·.key) := by
        rw [Array.toList_modify]
        apply List.ext_getElem?
        intro i
        rw [List.getElem?_map, List.getElem?_map, List.getElem?_modify]
        by_cases hij : j = i
        · subst hij
          rw [h2]
          simp [h3]
        · simp [hij]
      rw [this]
      exact hnd
    · intro m u
      show (if m = n then some v else f m) = some u ↔ _
      have hmem : ∀ x, x ∈ (es.modify j fun x => { x with key := .int .i64 n, val := v }).toList ↔ (x = { e0 with key := .int .i64 n, val := v } ∨ ∃ i, i ≠ j ∧ es.toList[i]? = some x) := by
        intro x
        rw [Array.toList_modify, List.mem_iff_getElem?]
        constructor
        · rintro ⟨i, hi⟩
          rw [List.getElem?_modify] at hi
          by_cases hij : j = i
          · subst hij
            rw [h2] at hi
            simp at hi
            exact .inl hi.symm
          · exact .inr ⟨i, Ne.symm hij, by simpa [hij] using hi⟩
        · rintro (rfl | ⟨i, hij, hi⟩)
          · exact ⟨j, by rw [List.getElem?_modify, h2]; simp⟩
          · exact ⟨i, by rw [List.getElem?_modify, hi]; simp [Ne.symm hij]⟩
      have hinj : ∀ i x, i ≠ j → es.toList[i]? = some x → x.key ≠ .int .i64 n := by
        intro i x hij hi hxk
        have a1 : (es.toList.map (·.key))[i]? = some (.int .i64 n) := by rw [List.getElem?_map, hi]; simp [hxk]
        have a2 : (es.toList.map (·.key))[j]? = some (.int .i64 n) := by rw [List.getElem?_map, h2]; simp [h3]
        have hil : i < (es.toList.map (·.key)).length := (List.getElem?_eq_some_iff.1 a1).1
        exact hij ((List.getElem?_inj hil hnd).1 (a1.trans a2.symm))
      by_cases hm : m = n
      · subst hm
        rw [if_pos rfl]
        refine ⟨fun h => ?_, fun ⟨x, hx, hxk, hxv⟩ => ?_⟩
        · cases h; exact ⟨_, (hmem _).2 (.inl rfl), rfl, rfl⟩
        · rcases (hmem x).1 hx with rfl | ⟨i, hij, hi⟩
          · rw [← hxv]
          · exact absurd hxk (hinj i x hij hi)
      · rw [if_neg hm, hf m u]
        refine ⟨fun ⟨x, hx, hxk, hxv⟩ => ?_, fun ⟨x, hx, hxk, hxv⟩ => ?_⟩
        · refine ⟨x, (hmem x).2 (.inr ?_), hxk, hxv⟩
          obtain ⟨i, hi⟩ := List.mem_iff_getElem?.1 hx
          refine ⟨i, fun e => ?_, hi⟩
          subst e
          rw [h2] at hi
          cases hi
          rw [h3] at hxk
          simp at hxk
          exact hm hxk.symm
        · rcases (hmem x).1 hx with rfl | ⟨i, hij, hi⟩
          · simp at hxk; exact absurd hxk.symm hm
          · exact ⟨x, List.mem_of_getElem? hi, hxk, hxv⟩
/-- m[k] = v -/
theorem upd_imap {ops : Array Oper} {rest : List Oper} {o : Oper} {a : Act} {Q : Exit → Act → World → Prop} {m x v : Operand} {n : Int} {val : Value} (h : IMap w b f) (ht : P.underlying t = some (.map k e)) (hk : P.underlying k = some (.int .i64))
    (hK : ∀ w', IMap w' b (fun m => if m = n then some val else f m) → Touch [b] w w' → wpList P ops Q rest (a.put o.dst undef) w')
    (hg : o.guard = none := by rfl) (hop : o.op = Op.mapUpdate t m x v := by rfl) (hm : a.eval m = .map (some b) := by rfl) (hx : a.eval x = .int .i64 n := by rfl) (hv : a.eval v = val := by rfl) :
    wpList P ops Q (o :: rest) a w := by
  refine wpList_plain hg fun K' hK' => ?_
  obtain ⟨w', hrun, r1, r2⟩ := h.update (P := P) ht hk n val
  unfold Oper.wp
  simp [execOp, hop, hm, hx, hv, hrun, Result.andThen]
  exact hK' _ _ (hK w' r1 r2)
end
end Go.Proofs.YtmnaddlniaklcaaGreatDoor

namespace Go.Proofs.YtmnaddlniaklcaaGreatDoor
open Go.RowKit

def I (n : Int) : Value := .int .i64 n
def Fits (n : Int) : Prop := -9223372036854775808 ≤ n ∧ n ≤ 9223372036854775807
/-- A list of rows of equal length, laid end to end. -/
theorem flat_at {α β : Type} (f : α → List β) (c : Nat) (hc : ∀ x, (f x).length = c) : ∀ (xs : List α) (k j : Nat) (hk : k < xs.length), j < c → (xs.flatMap f)[k * c + j]? = (f xs[k])[j]?
  | [], k, j, hk, _ => absurd hk (by simp)
  | x :: xs, 0, j, hk, hj => by
    rw [List.flatMap_cons, List.getElem?_append_left (by rw [hc]; omega)]
    simp
  | x :: xs, k + 1, j, hk, hj => by
    have h1 : (k + 1) * c + j = (k * c + j) + c := by rw [Nat.add_mul]; omega
    rw [List.flatMap_cons, List.getElem?_append_right (by rw [hc]; omega), hc, h1, Nat.add_sub_cancel, flat_at f c hc xs k j (by simpa using hk) hj]
    simp
/-- The slice v reads as xs, each element by its cells. -/
def Rows_ {α : Type} (c : Nat) (f : α → List Value) (fit : α → Prop) (w : World) (v : Value) (xs : List α) : Prop := Reads w c v xs.length (xs.flatMap f) ∧ ∀ x ∈ xs, fit x
section
variable {α : Type} {c : Nat} {f : α → List Value} {fit : α → Prop} {w w' : World} {v : Value} {xs : List α} {L : List Nat}
theorem Rows_.touch (h : Rows_ c f fit w v xs) (ht : Touch L w w') (hv : ∀ b ∈ rb v, b ∉ L) : Rows_ c f fit w' v xs := ⟨Reads.touch h.1 ht hv, h.2⟩
theorem Rows_.touch0 (h : Rows_ c f fit w v xs) (ht : Touch [] w w') : Rows_ c f fit w' v xs := ⟨Reads.touch0 h.1 ht, h.2⟩
theorem Rows_.form (h : Rows_ c f fit w v xs) : ∃ A cap, v = .slice A xs.length cap := by
  obtain ⟨A, cap, e, -⟩ := h.1
  exact ⟨A, cap, e⟩
/-- The address of a slice that is not empty. -/
theorem Rows_.addr {A : Option Addr} {cap : Nat} (h : Rows_ c f fit w (.slice A xs.length cap) xs) {k : Nat} (hk : k < xs.length) : ∃ b off, A = some ⟨b, off, none⟩ ∧ b < w.heap.size := by
  obtain ⟨A', cap', e, h1, h2, h3, h4⟩ := h.1
  injection e with e1 e2 e3
  subst e1 e3
  obtain ⟨b, off, rfl, hb, hcell⟩ := h4 (by omega)
  exact ⟨b, off, rfl, hb⟩
theorem Rows_.cell {b off cap : Nat} (h : Rows_ c f fit w (.slice (some ⟨b, off, none⟩) xs.length cap) xs) (hc : ∀ x, (f x).length = c) {k : Nat} (hk : k < xs.length) (j : Nat) (hj : j < c) (u : Value) (hu : (f xs[k])[j]? = some u) : w.cell? ⟨b, off + k * c + j, none⟩ = some u := by
  obtain ⟨A', cap', e, h1, h2, h3, h4⟩ := h.1
  injection e with e1 e2 e3
  subst e1 e3
  obtain ⟨b', off', e4, hb, hcell⟩ := h4 (by omega)
  injection e4 with e4
  injection e4 with e5 e6
  subst e5 e6
  rw [← flat_at f c hc xs k j hk hj] at hu
  have := hcell _ u hu
  rwa [← Nat.add_assoc] at this
theorem Rows_.lt (h : Rows_ c f fit w v xs) : ∀ g ∈ rb v, g < w.heap.size := Reads.lt h.1
theorem Rows_.cap {A : Option Addr} {cap : Nat} (h : Rows_ c f fit w (.slice A xs.length cap) xs) : xs.length ≤ cap ∧ cap ≤ 9223372036854775807 := by
  obtain ⟨A', cap', e, h1, h2, -⟩ := h.1
  injection e with e1 e2 e3
  subst e3
  unfold maxLen at h2
  exact ⟨h1, by omega⟩
end
structure Tx where
  a : Int
  b : Int
  c : Int
def Tx.cells (x : Tx) : List Value := [I x.a, I x.b, I x.c]
def Tx.Fit (x : Tx) : Prop := Fits x.a ∧ Fits x.b ∧ Fits x.c
abbrev Trips := Rows_ 3 Tx.cells Tx.Fit
structure Cx where
  a : Int
  b : Int
def Cx.cells (x : Cx) : List Value := [I x.a, I x.b]
def Cx.Fit (x : Cx) : Prop := Fits x.a ∧ Fits x.b
abbrev Pairs := Rows_ 2 Cx.cells Cx.Fit
def icells (n : Int) : List Value := [I n]
abbrev Nums := Rows_ 1 icells Fits
section
variable {w : World} {b off cap : Nat}
theorem Trips.at_ {xs : List Tx} (h : Trips w (.slice (some ⟨b, off, none⟩) xs.length cap) xs) {k : Nat} (hk : k < xs.length) :
    w.cell? ⟨b, off + k * 3, none⟩ = some (.int .i64 xs[k].a) ∧ w.cell? ⟨b, off + k * 3 + 1, none⟩ = some (.int .i64 xs[k].b) ∧ w.cell? ⟨b, off + k * 3 + 1 + 1, none⟩ = some (.int .i64 xs[k].c) :=
  ⟨h.cell (fun _ => rfl) hk 0 (by omega) _ rfl, h.cell (fun _ => rfl) hk 1 (by omega) _ rfl, h.cell (fun _ => rfl) hk 2 (by omega) _ rfl⟩
theorem Pairs.at_ {xs : List Cx} (h : Pairs w (.slice (some ⟨b, off, none⟩) xs.length cap) xs) {k : Nat} (hk : k < xs.length) :
    w.cell? ⟨b, off + k * 2, none⟩ = some (.int .i64 xs[k].a) ∧ w.cell? ⟨b, off + k * 2 + 1, none⟩ = some (.int .i64 xs[k].b) :=
  ⟨h.cell (fun _ => rfl) hk 0 (by omega) _ rfl, h.cell (fun _ => rfl) hk 1 (by omega) _ rfl⟩
theorem Nums.at_ {xs : List Int} (h : Nums w (.slice (some ⟨b, off, none⟩) xs.length cap) xs) {k : Nat} (hk : k < xs.length) :
    w.cell? ⟨b, off + k, none⟩ = some (.int .i64 xs[k]) := by
  have := h.cell (fun _ => rfl) hk 0 (by omega) _ rfl
  simpa [I] using this
end
/-- A list whose keys strictly increase from above a number on, with no bad element. -/
def okList {α : Type} (bad : α → Prop) [DecidablePred bad] (key : α → Int) : Int → List α → Bool
  | _, [] => true
  | last, x :: xs => if key x ≤ last ∨ bad x then false else okList bad key (key x) xs
section
variable {α : Type} {bad : α → Prop} [DecidablePred bad] {key : α → Int} {l : List α} {k : Nat} {last : Int}
theorem ok_end (hk : ¬ k < l.length) : okList bad key last (l.drop k) = true := by rw [List.drop_eq_nil_of_le (by omega)]; rfl
theorem ok_bad (hk : k < l.length) (hb : key l[k] ≤ last ∨ bad l[k]) : okList bad key last (l.drop k) = false := by
  rw [List.drop_eq_getElem_cons hk]
  simp only [okList]
  rw [if_pos hb]
theorem ok_next (hk : k < l.length) (h1 : ¬ key l[k] ≤ last) (hb : ¬ bad l[k]) : okList bad key last (l.drop k) = okList bad key (key l[k]) (l.drop (k + 1)) := by
  rw [List.drop_eq_getElem_cons hk]
  simp only [okList]
  rw [if_neg (fun h => h.elim h1 hb)]
end
def wBad (x : Tx) : Prop := 512 ≤ x.a ∨ x.b < 0 ∨ 2 < x.b ∨ x.c < 0 ∨ 1000000000 < x.c
instance : DecidablePred wBad := fun x => by unfold wBad; infer_instance
def eBad (x : Tx) : Prop := 512 ≤ x.a ∨ x.b < 1 ∨ 3 < x.b ∨ x.c < 1 ∨ 1000000 < x.c
instance : DecidablePred eBad := fun x => by unfold eBad; infer_instance
def sBad (n : Int) : Prop := 512 ≤ n
instance : DecidablePred sBad := fun x => by unfold sBad; infer_instance
def cBad (x : Cx) : Prop := 512 ≤ x.a ∨ x.b < 2 ∨ 51 < x.b
instance : DecidablePred cBad := fun x => by unfold cBad; infer_instance
def wOk (l : List Tx) : Bool := okList wBad Tx.a (-1) l
def eOk (l : List Tx) : Bool := okList eBad Tx.a (-1) l
def sOk (l : List Int) : Bool := okList sBad id (-1) l
def cOk (l : List Cx) : Bool := okList cBad Cx.a (-1) l
end Go.Proofs.YtmnaddlniaklcaaGreatDoor

namespace Go.Proofs.YtmnaddlniaklcaaGreatDoor
open Go.RowKit
set_option linter.unusedSimpArgs false

theorem ret_b {a b : Bool} (h : a = b) : Ending.returned (.bool a) = .returned (.bool b) := by rw [h]
def OkRel {α : Type} (bad : α → Prop) [DecidablePred bad] (key : α → Int) (w : World) (l : List α) (res : Bool) (tl ti : Value) (wr : World) : Prop :=
  ∃ (k : Nat) (last : Int), k ≤ l.length ∧ ti = .int .i64 k ∧ tl = .int .i64 last ∧ Touch [] w wr ∧ res = okList bad key last (l.drop k)
theorem w_bad {l : List Tx} {k : Nat} {last : Int} {res : Bool} {xa xb xc : Int} (hres : res = okList wBad Tx.a last (l.drop k)) (hk : k < l.length) (hx : l[k] = ⟨xa, xb, xc⟩) (h : xa ≤ last ∨ 512 ≤ xa ∨ xb < 0 ∨ 2 < xb ∨ xc < 0 ∨ 1000000000 < xc) : res = false := by
  rw [hres]
  refine ok_bad hk ?_
  rw [hx]
  unfold wBad
  simpa using h
theorem w_next {l : List Tx} {k : Nat} {last : Int} {res : Bool} {xa xb xc : Int} (hres : res = okList wBad Tx.a last (l.drop k)) (hk : k < l.length) (hx : l[k] = ⟨xa, xb, xc⟩) (h : ¬ (xa ≤ last ∨ 512 ≤ xa ∨ xb < 0 ∨ 2 < xb ∨ xc < 0 ∨ 1000000000 < xc)) : res = okList wBad Tx.a xa (l.drop (k + 1)) := by
  rw [hres, ok_next hk]
  · first | (rw [hx]; done) | (rw [hx]; rfl)
  · rw [hx]; exact fun h1 => h (.inl h1)
  · rw [hx]; exact fun h1 => h (.inr h1)
theorem e_bad {l : List Tx} {k : Nat} {last : Int} {res : Bool} {xa xb xc : Int} (hres : res = okList eBad Tx.a last (l.drop k)) (hk : k < l.length) (hx : l[k] = ⟨xa, xb, xc⟩) (h : xa ≤ last ∨ 512 ≤ xa ∨ xb < 1 ∨ 3 < xb ∨ xc < 1 ∨ 1000000 < xc) : res = false := by
  rw [hres]
  refine ok_bad hk ?_
  rw [hx]
  unfold eBad
  simpa using h
theorem e_next {l : List Tx} {k : Nat} {last : Int} {res : Bool} {xa xb xc : Int} (hres : res = okList eBad Tx.a last (l.drop k)) (hk : k < l.length) (hx : l[k] = ⟨xa, xb, xc⟩) (h : ¬ (xa ≤ last ∨ 512 ≤ xa ∨ xb < 1 ∨ 3 < xb ∨ xc < 1 ∨ 1000000 < xc)) : res = okList eBad Tx.a xa (l.drop (k + 1)) := by
  rw [hres, ok_next hk]
  · first | (rw [hx]; done) | (rw [hx]; rfl)
  · rw [hx]; exact fun h1 => h (.inl h1)
  · rw [hx]; exact fun h1 => h (.inr h1)
set_option maxRecDepth 100000 in
set_option maxHeartbeats 4000000 in
theorem revValid_any (v : Value) (l : List Tx) (w : World) (hv : Trips w v l) (hl : l.length ≤ 100000) : Calls Tryz.prog 26 #[v] w fun r w' => r = .returned (.bool (eOk l)) ∧ Touch [] w w' := by
  obtain ⟨A, cap, rfl⟩ := hv.form
  obtain ⟨hc1, hc2⟩ := hv.cap
  have hst : OkRel eBad Tx.a w l (eOk l) (.int .i64 (-1)) (.int .i64 0) w := ⟨0, -1, by omega, rfl, rfl, Touch.refl _ _, rfl⟩
  generalize eOk l = res at *
  go_enter Tryz.func26, Tryz.ntmps26
  go_wp2_with fail
  go_loopw [3, 8] (fun tl ti wr => OkRel eBad Tx.a w l res tl ti wr) (fun _ ti _ => l.length - (intOf ti).toNat)
  case atStart => exact hst
  case round =>
    clear hst
    obtain ⟨k, last, hk, rfl, rfl, ht, hres⟩ := hrel
    have HRES := Lib.hid hres
    clear hres
    by_cases hlt : k < l.length
    · have hlt' : (k : Int) < (l.length : Int) := by omega
      obtain ⟨b, off, rfl, hb⟩ := hv.addr hlt
      obtain ⟨c0, c1, c2⟩ := Trips.at_ (hv.touch0 ht) hlt
      have hb' : b < wr.heap.size := by have := ht.size; omega
      generalize hxk : l[k] = x at *
      have HXK := Lib.hid hxk
      obtain ⟨xa, xb, xc⟩ := x
      clear hxk hv
      try simp only at c0
      try simp only at c1
      try simp only at c2
      go_wp2_with fail
      all_goals first
        | (go_roundw; (case rel => exact ⟨k + 1, xa, by omega, by go_num, rfl, by first | exact ht.alloc _ | exact ht, e_next HRES.out hlt HXK.out (by omega)⟩); (case measure => simp [intOf]; omega))
        | (go_ret; exact ⟨ret_b (e_bad HRES.out hlt HXK.out (by omega)).symm, by first | exact ht.alloc _ | exact ht⟩)
    · have hlt' : ¬ (k : Int) < (l.length : Int) := by omega
      go_wp2_with fail
      go_ret
      exact ⟨ret_b (by rw [HRES.out, ok_end hlt]), ht⟩
/-- Only the order has been drawn. -/
def Drew (w w' : World) : Prop := ∃ n, w' = w.drewN n
theorem Drew.refl (w : World) : Drew w w := ⟨0, rfl⟩
theorem Drew.drewN {w w' : World} (h : Drew w w') (n : Nat) : Drew w (w'.drewN n) := by
  obtain ⟨m, rfl⟩ := h
  exact ⟨m + n, World.drewN_drewN _ _ _⟩
theorem Drew.touch {w w' : World} (h : Drew w w') : Touch [] w w' := by
  obtain ⟨m, rfl⟩ := h
  exact (Touch.refl _ _).drewN m
theorem Drew.size {w w' : World} (h : Drew w w') : w.heap.size ≤ w'.heap.size := h.touch.size
theorem Touch.touch {L : List Nat} {w w' : World} (h : Touch L w w') : Touch L w w' := h
def PrevRel {α : Type} (D : World → World → Prop) (bad : α → Prop) [DecidablePred bad] (key : α → Int) (w : World) (l : List α) (res : Bool) (ti : Value) (wr : World) : Prop :=
  ∃ (k : Nat) (last : Int), k ≤ l.length ∧ ti = .int .i64 k ∧ (k = 0 → last = -1) ∧ (∀ j x, l[j]? = some x → j + 1 = k → last = key x) ∧ (0 < k → 0 ≤ last) ∧ D w wr ∧ res = okList bad key last (l.drop k)
set_option maxRecDepth 100000 in
set_option maxHeartbeats 4000000 in
theorem refValid31_any (v : Value) (l : List Tx) (w : World) (hv : Trips w v l) (hl : l.length ≤ 100000) : Calls Tryz.prog 27 #[v] w fun r w' => r = .returned (.bool (eOk l)) ∧ Touch [] w w' := by
  obtain ⟨A, cap, rfl⟩ := hv.form
  obtain ⟨hc1, hc2⟩ := hv.cap
  have hst : PrevRel (Touch []) eBad Tx.a w l (eOk l) (.int .i64 0) w := ⟨0, -1, by omega, rfl, fun _ => rfl, fun j x _ h => by omega, fun h => by omega, Touch.refl _ _, rfl⟩
  generalize eOk l = res at *
  go_enter Tryz.func27, Tryz.ntmps27
  go_wp2_with fail
  go_loopw [3] (fun ti wr => PrevRel (Touch []) eBad Tx.a w l res ti wr) (fun ti _ => l.length - (intOf ti).toNat)
  case atStart => exact hst
  case round =>
    clear hst
    obtain ⟨k, last, hk, rfl, h0, h1, h2, ht, hres⟩ := hrel
    have HRES := Lib.hid hres
    clear hres
    by_cases hlt : k < l.length
    case neg =>
      have hlt' : ¬ (k : Int) < (l.length : Int) := by omega
      clear h0 h1 h2
      go_wp2_with fail
      go_ret
      exact ⟨ret_b (by rw [HRES.out, ok_end hlt]), ht⟩
    have hlt' : (k : Int) < (l.length : Int) := by omega
    obtain ⟨b, off, rfl, hb⟩ := hv.addr hlt
    obtain ⟨c0, c1, c2⟩ := Trips.at_ (hv.touch0 ht.touch) hlt
    have hb' : b < wr.heap.size := by have := ht.size; omega
    have HP : Hid (∀ m, k = m + 1 → wr.cell? ⟨b, off + m * 3, none⟩ = some (.int .i64 last)) := Lib.hid (fun m hm => by
      have := (Trips.at_ (hv.touch0 ht.touch) (k := m) (by omega)).1
      first | (rw [this, h1 m l[m] (by simp) hm.symm]; done) | (rw [this, h1 m l[m] (by simp) hm.symm]; rfl))
    have H0 := Lib.hid h0
    have H2 := Lib.hid h2
    have HX1 : Hid (∀ j x, l[j]? = some x → j + 1 = k + 1 → l[k].a = Tx.a x) := Lib.hid (fun j x hj hjk => by
      have : j = k := by omega
      subst this
      rw [List.getElem?_eq_getElem hlt] at hj
      cases hj
      rfl)
    have hl0 : -1 ≤ last := by
      rcases Nat.eq_zero_or_pos k with h | h
      · have := h0 h; omega
      · have := h2 h; omega
    clear h0 h1 h2
    generalize hxk : l[k] = x at *
    have HXK := Lib.hid hxk
    obtain ⟨xa, xb, xc⟩ := x
    clear hxk hv
    try simp only at c0
    try simp only at c1
    try simp only at c2
    try simp only at HX1
    go_wp2_with fail
    by_cases b0 : xa < 0
    · have d0 : decide (xa < 0) = true := decide_eq_true b0
      go_quiet (fail)
      go_wp2_with fail
      go_ret
      exact ⟨ret_b (e_bad HRES.out hlt HXK.out (by omega)).symm, (ht.alloc _).drewN _⟩
    have d0 : decide (xa < 0) = false := decide_eq_false b0
    by_cases b1 : 511 < xa
    · have d1 : decide (511 < xa) = true := decide_eq_true b1
      go_quiet (fail)
      go_wp2_with fail
      go_ret
      exact ⟨ret_b (e_bad HRES.out hlt HXK.out (by omega)).symm, (ht.alloc _).drewN _⟩
    have d1 : decide (511 < xa) = false := decide_eq_false b1
    by_cases b2 : xb < 1
    · have d2 : decide (xb < 1) = true := decide_eq_true b2
      go_quiet (fail)
      go_wp2_with fail
      go_ret
      exact ⟨ret_b (e_bad HRES.out hlt HXK.out (by omega)).symm, (ht.alloc _).drewN _⟩
    have d2 : decide (xb < 1) = false := decide_eq_false b2
    by_cases b3 : 3 < xb
    · have d3 : decide (3 < xb) = true := decide_eq_true b3
      go_quiet (fail)
      go_wp2_with fail
      go_ret
      exact ⟨ret_b (e_bad HRES.out hlt HXK.out (by omega)).symm, (ht.alloc _).drewN _⟩
    have d3 : decide (3 < xb) = false := decide_eq_false b3
    by_cases b4 : xc < 1
    · have d4 : decide (xc < 1) = true := decide_eq_true b4
      go_quiet (fail)
      go_wp2_with fail
      go_ret
      exact ⟨ret_b (e_bad HRES.out hlt HXK.out (by omega)).symm, (ht.alloc _).drewN _⟩
    have d4 : decide (xc < 1) = false := decide_eq_false b4
    by_cases b5 : 1000000 < xc
    · have d5 : decide (1000000 < xc) = true := decide_eq_true b5
      go_quiet (fail)
      go_wp2_with fail
      go_ret
      exact ⟨ret_b (e_bad HRES.out hlt HXK.out (by omega)).symm, (ht.alloc _).drewN _⟩
    have d5 : decide (1000000 < xc) = false := decide_eq_false b5
    rcases Nat.eq_zero_or_pos k with hk0 | hk0
    · have hz := H0.out hk0
      have dk : decide ((0 : Int) < (k : Int)) = false := decide_eq_false (by omega)
      have dk2 : decide (0 < k) = false := decide_eq_false (by omega)
      have HK0 := Lib.hid hk0
      clear hk0
      go_quiet (fail)
      go_wp2_with fail
      go_roundw
      case rel => exact ⟨k + 1, xa, by omega, by go_num, fun h => by omega, HX1.out, fun _ => by omega, (ht.alloc _).drewN _, e_next HRES.out hlt HXK.out (by omega)⟩
      case measure => simp [intOf]; omega
    · obtain ⟨m, hm⟩ : ∃ m, k = m + 1 := ⟨k - 1, by omega⟩
      have cp := HP.out m hm
      have dk : decide ((0 : Int) < (k : Int)) = true := decide_eq_true (by omega)
      have dk2 : decide (0 < k) = true := decide_eq_true (by omega)
      have hz := H2.out hk0
      have hml : (m : Int) < (l.length : Int) := by omega
      have hml2 : m < l.length := by omega
      have e1 : ((k : Int) - 1) = (m : Int) := by omega
      have e2 : IntKind.i64.wrap ((k : Int) - 1) = (m : Int) := by rw [e1]; exact IntWalk.i64_in _ (by omega)
      have HM := Lib.hid hm
      clear hm
      by_cases bp : xa ≤ last
      · have dp : decide (xa ≤ last) = true := decide_eq_true bp
        go_quiet (fail)
        go_wp2_with fail
        go_ret
        exact ⟨ret_b (e_bad HRES.out hlt HXK.out (by omega)).symm, (ht.alloc _).drewN _⟩
      · have dp : decide (xa ≤ last) = false := decide_eq_false bp
        go_quiet (fail)
        go_wp2_with fail
        go_roundw
        case rel => exact ⟨k + 1, xa, by omega, by go_num, fun h => by omega, HX1.out, fun _ => by omega, (ht.alloc _).drewN _, e_next HRES.out hlt HXK.out (by omega)⟩
        case measure => simp [intOf]; omega
end Go.Proofs.YtmnaddlniaklcaaGreatDoor

namespace Go.Proofs.YtmnaddlniaklcaaGreatDoor
open Go.ChangeShapes Go.WideShapes Go.ChangeAt Go.RowKit Go.Deep Go.Joins

theorem list_of {α : Type} {P : Nat → α → Prop} : ∀ (n : Nat), (∀ i, i < n → ∃ x, P i x) → ∃ l : List α, l.length = n ∧ ∀ i (hi : i < l.length), P i l[i]
  | 0, _ => ⟨[], rfl, fun i hi => absurd hi (by simp)⟩
  | n + 1, h => by
    obtain ⟨l, hl, hp⟩ := list_of n (fun i hi => h i (by omega))
    obtain ⟨x, hx⟩ := h n (by omega)
    refine ⟨l ++ [x], by simp [hl], fun i hi => ?_⟩
    by_cases hin : i < l.length
    · rw [List.getElem_append_left hin]
      exact hp i hin
    · have e : i = l.length := by simp at hi; omega
      subst e
      rw [List.getElem_append_right (by omega)]
      simp only [Nat.sub_self, List.getElem_cons_zero]
      rw [hl]
      exact hx
theorem cell_plain {w : World} {b off : Nat} {sp : Option Nat} {u : Value} (h : w.cell? ⟨b, off, sp⟩ = some u) : sp = none := by
  unfold World.cell? at h
  cases sp with
  | none => rfl
  | some x => simp at h; split at h <;> simp_all
theorem flat_len_c {α β : Type} (f : α → List β) (c : Nat) (hc : ∀ x, (f x).length = c) : ∀ xs : List α, (xs.flatMap f).length = xs.length * c
  | [] => by simp
  | x :: xs => by rw [List.flatMap_cons, List.length_append, hc, flat_len_c f c hc xs, List.length_cons, Nat.add_mul]; omega
theorem reads_of_rows {α : Type} {w : World} (f : α → List Value) (c : Nat) (hp : 0 < c) (hc : ∀ x, (f x).length = c) (l : List α) (A : Option Addr) (cap : Nat) (h1 : l.length ≤ cap) (h2 : cap ≤ maxLen)
    (h : 0 < l.length → ∃ ad, A = some ad ∧ ∀ k (hk : k < l.length) j u, j < c → (f l[k])[j]? = some u → w.cell? (ad.add (k * c + j)) = some u) : Reads w c (.slice A l.length cap) l.length (l.flatMap f) := by
  refine ⟨A, cap, rfl, h1, h2, flat_len_c f c hc l, fun hn => ?_⟩
  obtain ⟨⟨b, off, sp⟩, rfl, hcell⟩ := h hn
  have h0 := hcell 0 hn 0 _ hp (List.getElem?_eq_getElem (by rw [hc]; exact hp))
  have hz : (⟨b, off, sp⟩ : Addr).add (0 * c + 0) = ⟨b, off, sp⟩ := by unfold Addr.add; simp
  rw [hz] at h0
  have hsp := cell_plain h0
  subst hsp
  refine ⟨b, off, rfl, World.block_lt_of_cell? w _ h0, fun j u hu => ?_⟩
  have hj : j < l.length * c := by
    have := (List.getElem?_eq_some_iff.1 hu).1
    rwa [flat_len_c f c hc] at this
  have hk : j / c < l.length := Nat.div_lt_of_lt_mul (by rw [Nat.mul_comm]; exact hj)
  have hm : j % c < c := Nat.mod_lt _ hp
  have e : j / c * c + j % c = j := by rw [Nat.mul_comm]; exact Nat.div_add_mod j c
  have h3 := flat_at f c hc l (j / c) (j % c) hk hm
  rw [e, hu] at h3
  have h4 := hcell (j / c) hk (j % c) u hm h3.symm
  rw [e, add_lit] at h4
  exact h4


section
variable {H : Type} {enc : TypeId × Value → H} {P : Program} {w : World} {base : Nat} {held : Bool}
/-- A slice of structs, whatever the number of their fields: field by field. -/
theorem open_rows1 {t e : TypeId} {fs : Array Field} {v : Value} {fuel : Nat} {y0 : DataW H × List MemPlace} (ht : P.underlying t = some (.slice e)) (he : P.underlying e = some (.struct fs)) (hone : oneCellFields P fs = true) (hC : P.cellsOf e = fs.size)
    (hf : DataW.trod enc P w base (fun _ => true) held fuel t [v] = some y0) :
    ∃ A len cap, v = .slice A len cap ∧ len ≤ cap ∧ cap ≤ maxLen ∧ ((A = none ∧ len = 0) ∨ ∃ ad, A = some ad ∧ ∀ i, i < len → ∀ (j : Nat) (f : Field), fs[j]? = some f → ∃ (u : Value) (n : Nat) (y : DataW H × List MemPlace), w.cell? (ad.add (i * fs.size + j)) = some u ∧ DataW.trod enc P w base (fun _ => true) held n f.type [u] = some y) := by
  rcases open_slice ht hf with ⟨hcs, _⟩ | ⟨ad, len', cap', m, n, D, Pl, hcs, _, hl, hm, hmm, _, hi⟩
  · simp at hcs
    subst hcs
    exact ⟨none, 0, 0, rfl, Nat.le_refl _, Nat.zero_le _, .inl ⟨rfl, rfl⟩⟩
  · simp at hcs
    subst hcs
    refine ⟨_, _, _, rfl, hl, hm, .inr ⟨ad, rfl, fun i him j f hj => ?_⟩⟩
    simp only [if_true] at hmm
    obtain ⟨cs', hc, ht'⟩ := hi i (by omega)
    rw [hC] at hc
    obtain ⟨ys, n', _, _, _, hyl, hff⟩ := DataW.trod_struct he ht'
    obtain ⟨_, hcl, hat⟩ := World.cells?_some hc
    obtain ⟨ho, hk⟩ := hone_of hone j f hj
    have hjl : j < fs.size := (Array.getElem?_eq_some_iff.1 hj).1
    have hcell := hat j hjl
    have hv' : cs'[j]? = some (cs'[j]'(by omega)) := List.getElem?_eq_getElem (by omega)
    have h1 := hff j f hj
    rw [ho, hk] at h1
    have hone' : (cs'.drop j).take 1 = [cs'[j]'(by omega)] := by
      rw [List.drop_eq_getElem_cons (by omega)]
      rfl
    rw [hone'] at h1
    have hys : ys[j]? = some (ys[j]'(by omega)) := List.getElem?_eq_getElem (by omega)
    refine ⟨cs'[j]'(by omega), n', ys[j]'(by omega), ?_, h1.trans hys⟩
    rw [← Go.Deep.add_add, hcell, hv']
/-- A slice as an argument: its own cell. -/
theorem slice_arg {r : Reach} {b0 : Nat} {t e : TypeId} {v : Value} {d : DataW H} {p : List MemPlace} {sp : Nat → Bool} (ht : P.underlying t = some (.slice e)) (hv : Value.okWide P w r b0 t v) (h : DataW.Trod enc P w base sp held t v d p) : ∃ fuel, DataW.trod enc P w base sp held fuel t [v] = some (d, p) := by
  obtain ⟨a, len, cap, rfl⟩ := okWide_slice ht hv
  obtain ⟨fuel, hf⟩ := h
  exact ⟨fuel, by simpa [Value.cells] using hf⟩
end

section
variable {H : Type} {enc : TypeId × Value → H} {W : World} {base : Nat}
theorem trod_i {u : Value} {n : Nat} {y : DataW H × List MemPlace} (h : DataW.trod enc Tryz.prog W 0 (fun _ => true) true n 3 [u] = some y) : ∃ m, u = I m ∧ Fits m := by
  obtain ⟨m, hcs, _, wf⟩ := DataW.trod_int Tryz.underlying3 h
  have := bounds_i64 wf
  exact ⟨m, by injection hcs, by unfold Fits; omega⟩
set_option maxRecDepth 100000 in
theorem trod_ents {v : Value} {n : Nat} {y : DataW H × List MemPlace} (h : DataW.trod enc Tryz.prog W 0 (fun _ => true) true n 76 [v] = some y) : ∃ xs, Trips W v xs := by
  obtain ⟨A, len, cap, rfl, h1, h2, hr⟩ := open_rows1 Tryz.underlying76 Tryz.underlying123 (by kernel_rfl) (by kernel_rfl) h
  rcases hr with ⟨rfl, rfl⟩ | ⟨ad, rfl, hr⟩
  · exact ⟨[], ⟨none, cap, rfl, h1, h2, rfl, fun h => absurd h (by simp)⟩, by simp⟩
  · obtain ⟨l, hl, hp⟩ := list_of (P := fun i (x : Tx) => W.cell? (ad.add (i * 3 + 0)) = some (I x.a) ∧ W.cell? (ad.add (i * 3 + 1)) = some (I x.b) ∧ W.cell? (ad.add (i * 3 + 2)) = some (I x.c) ∧ x.Fit) len (fun i hi => by
      obtain ⟨u0, n0, y0, k0, t0⟩ := hr i hi 0 _ rfl
      obtain ⟨u1, n1, y1, k1, t1⟩ := hr i hi 1 _ rfl
      obtain ⟨u2, n2, y2, k2, t2⟩ := hr i hi 2 _ rfl
      obtain ⟨m0, rfl, f0⟩ := trod_i t0
      obtain ⟨m1, rfl, f1⟩ := trod_i t1
      obtain ⟨m2, rfl, f2⟩ := trod_i t2
      exact ⟨⟨m0, m1, m2⟩, k0, k1, k2, f0, f1, f2⟩)
    subst hl
    refine ⟨l, reads_of_rows Tx.cells 3 (by omega) (fun _ => rfl) l (some ad) cap h1 h2 (fun _ => ⟨ad, rfl, fun k hk j u hj hu => ?_⟩), fun x hx => ?_⟩
    · obtain ⟨a0, a1, a2, _⟩ := hp k hk
      match j, hj, hu with
      | 0, _, hu => cases hu; exact a0
      | 1, _, hu => cases hu; exact a1
      | 2, _, hu => cases hu; exact a2
    · obtain ⟨i, hi, rfl⟩ := List.getElem_of_mem hx
      exact (hp i hi).2.2.2
set_option maxRecDepth 100000 in
theorem open_ents {v : Value} {d : DataW H} {p : List MemPlace} (hv : Value.okWide Tryz.prog W .any base 76 v) (h : DataW.Trod enc Tryz.prog W 0 (fun _ => true) true 76 v d p) : ∃ xs, Trips W v xs := by
  obtain ⟨fuel, hf⟩ := slice_arg Tryz.underlying76 hv h
  exact trod_ents hf
end
end Go.Proofs.YtmnaddlniaklcaaGreatDoor
