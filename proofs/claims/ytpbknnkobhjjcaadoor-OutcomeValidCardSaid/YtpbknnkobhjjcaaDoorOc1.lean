/- Maps keyed by an int that a call makes, read as functions; lists of structs of two and three numbers. No program in sight. -/
import Derived.Test.YtpbknnkobhjjcaaDoorBase
import Derived.Maps.Own
import Derived.Maps.OwnOps
namespace Go.Proofs.YtpbknnkobhjjcaaDoor
open Go.RowKit Go.ChangeMaps

/-- Block b is a map with just the entries of f. -/
def IMap (w : World) (b : Nat) (f : Int → Option Value) : Prop :=
  ∃ es clock, w.heap[b]? = some (.map es clock) ∧ (∀ x ∈ es.toList, ∃ n, x.key = .int .i64 n) ∧ (es.toList.map (·.key)).Nodup ∧ ∀ n v, f n = some v ↔ ∃ x ∈ es.toList, x.key = .int .i64 n ∧ x.val = v
section
variable {w w' : World} {b : Nat} {f : Int → Option Value} {P : Program} {t k e : TypeId} {L : List Nat}
theorem IMap.lt (h : IMap w b f) : b < w.heap.size := by
  obtain ⟨es, clock, hb, _⟩ := h
  exact (Array.getElem?_eq_some_iff.1 hb).1
theorem IMap.touch (h : IMap w b f) (ht : Touch L w w') (hb : b ∉ L) : IMap w' b f := by
  have hlt := h.lt
  obtain ⟨es, clock, h1, h2⟩ := h
  exact ⟨es, clock, (ht.block b hlt hb).trans h1, h2⟩
theorem IMap.touch0 (h : IMap w b f) (ht : Touch [] w w') : IMap w' b f := h.touch ht (by simp)
theorem IMap.new (w : World) : IMap (w.alloc (.map #[] 0)) w.heap.size (fun _ => none) := ⟨#[], 0, heap_alloc_new w _, by simp, by simp, by simp⟩
theorem run_makeMap_n (ht : P.underlying t = some (.map k e)) (n : Int) (w : World) : (Instr.makeMap t (some (.int .i64 n))).run P w = .ok (.map (some w.heap.size)) (w.alloc (.map #[] 0)) := by
  simp only [Instr.makeMap, Sem.run_bind, run_underlying ht, Result.andThen, asInt, asIntOf, Sem.run_pure]
  rfl
theorem IMap.congr {g : Int → Option Value} (h : IMap w b f) (e : ∀ n, f n = g n) : IMap w b g := by
  have : f = g := funext e
  rwa [← this]
theorem IMap.lookup (h : IMap w b f) (ht : P.underlying t = some (.map k e)) (hk : P.underlying k = some (.int .i64)) {z : Value} (hz : (zeroValue e).run P w = .ok z w) (n : Int) (c : Bool) :
    (Instr.lookup t (.map (some b)) (.int .i64 n) c).run P w = .ok (if c then .tuple #[(f n).getD z, .bool (f n).isSome] else (f n).getD z) w := by
  obtain ⟨es, clock, hb, hkeys, hnd, hf⟩ := h
  have hK : MapKept.IsKey (.int .i64) (.int .i64 n) := by simp [MapKept.IsKey]
  have hall : ∀ x ∈ es.toList, MapKept.IsKey (.int .i64) x.key := fun x hx => by obtain ⟨m, e⟩ := hkeys x hx; rw [e]; simp [MapKept.IsKey]
  rcases MapKept.findNow_spec hK es.toList 0 hall with ⟨h1, h2⟩ | ⟨j, e0, h1, h2, h3⟩
  · have hn : f n = none := by
      cases hfn : f n with
      | none => rfl
      | some v => obtain ⟨x, hx, hxk, _⟩ := (hf n v).1 hfn; exact absurd hxk (h2 x hx)
    rw [hn]
    simp [Instr.lookup, run_underlying ht, MapKept.run_getObj_map hb, MapKept.run_checkKey hk hK, MapKept.run_findKey hk h1, hz, Result.andThen]
  · have hn : f n = some e0.val := (hf n e0.val).2 ⟨e0, List.mem_of_getElem? h2, h3, rfl⟩
    rw [hn]
    simp [Instr.lookup, run_underlying ht, MapKept.run_getObj_map hb, MapKept.run_checkKey hk hK, MapKept.run_findKey hk h1, Result.andThen]
theorem IMap.update (h : IMap w b f) (ht : P.underlying t = some (.map k e)) (hk : P.underlying k = some (.int .i64)) (n : Int) (v : Value) :
    ∃ w', (Instr.mapUpdate t (.map (some b)) (.int .i64 n) v).run P w = .ok () w' ∧ IMap w' b (fun m => if m = n then some v else f m) ∧ Touch [b] w w' := by
  obtain ⟨es, clock, hb, hkeys, hnd, hf⟩ := h
  have hK : MapKept.IsKey (.int .i64) (.int .i64 n) := by simp [MapKept.IsKey]
  have hall : ∀ x ∈ es.toList, MapKept.IsKey (.int .i64) x.key := fun x hx => by obtain ⟨m, e⟩ := hkeys x hx; rw [e]; simp [MapKept.IsKey]
  have hlt : b < w.heap.size := (Array.getElem?_eq_some_iff.1 hb).1
  have hset : ∀ o, (setBlock w b o).heap[b]? = some o := fun o => by simp [setBlock, hlt]
  have htou : ∀ o, Touch [b] w (setBlock w b o) := fun o => ⟨rfl, rfl, rfl, by simp [setBlock], fun i hi hn => by simp at hn; simp [setBlock, Ne.symm hn]⟩
  rcases MapKept.findNow_spec hK es.toList 0 hall with ⟨h1, h2⟩ | ⟨j, e0, h1, h2, h3⟩
  · refine ⟨setBlock w b (.map (es.push ⟨.int .i64 n, v, clock⟩) (clock + 1)), ?_, ⟨_, _, hset _, ?_, ?_, ?_⟩, htou _⟩
    · simp [Instr.mapUpdate, run_underlying ht, MapKept.run_getObj_map hb, MapKept.run_checkKey hk hK, MapKept.run_findKey hk h1, MapKept.run_setObj_map _ hb, Result.andThen, setBlock]
    · intro x hx
      simp only [Array.toList_push, List.mem_append, List.mem_singleton] at hx
      rcases hx with hx | rfl
      · exact hkeys x hx
      · exact ⟨n, rfl⟩
    · simp only [Array.toList_push, List.map_append, List.map_cons, List.map_nil]
      rw [List.nodup_append]
      refine ⟨hnd, by simp, fun a ha c hc => ?_⟩
      simp at hc
      subst hc
      obtain ⟨x, hx, rfl⟩ := List.mem_map.1 ha
      exact h2 x hx
    · intro m u
      simp only [Array.toList_push, List.mem_append, List.mem_singleton]
      by_cases hm : m = n
      · subst hm
        rw [if_pos rfl]
        refine ⟨fun h => ?_, fun ⟨x, hx, hxk, hxv⟩ => ?_⟩
        · cases h; exact ⟨_, .inr rfl, rfl, rfl⟩
        · rcases hx with hx | rfl
          · exact absurd hxk (h2 x hx)
          · rw [← hxv]
      · rw [if_neg hm, hf m u]
        refine ⟨fun ⟨x, hx, r⟩ => ⟨x, .inl hx, r⟩, fun ⟨x, hx, hxk, hxv⟩ => ?_⟩
        rcases hx with hx | rfl
        · exact ⟨x, hx, hxk, hxv⟩
        · simp at hxk; exact absurd hxk.symm hm
  · have hj : es[j]? = some e0 := by rw [← Array.getElem?_toList]; exact h2
    have hjl : j < es.toList.length := (List.getElem?_eq_some_iff.1 h2).1
    refine ⟨setBlock w b (.map (es.modify j fun x => { x with key := .int .i64 n, val := v }) clock), ?_, ⟨_, _, hset _, ?_, ?_, ?_⟩, htou _⟩
    · simp [Instr.mapUpdate, run_underlying ht, MapKept.run_getObj_map hb, MapKept.run_checkKey hk hK, MapKept.run_findKey hk h1, hj, h3, MapKept.run_keyThatStays hK, MapKept.run_setObj_map _ hb, Result.andThen, setBlock]
    · intro x hx
      rw [Array.toList_modify] at hx
      obtain ⟨i, hi, rfl⟩ := List.getElem_of_mem hx
      rw [List.getElem_modify]
      split
      · exact ⟨n, rfl⟩
      · exact hkeys _ (List.getElem_mem _)
    · have : (es.modify j fun x => { x with key := .int .i64 n, val := v }).toList.map (·.key) = es.toList.map (·.key) := by
        rw [Array.toList_modify]
        apply List.ext_getElem?
        intro i
        rw [List.getElem?_map, List.getElem?_map, List.getElem?_modify]
        by_cases hij : j = i
        · subst hij
          rw [h2]
          simp [h3]
        · simp [hij]
      rw [this]
      exact hnd
    · intro m u
      show (if m = n then some v else f m) = some u ↔ _
      have hmem : ∀ x, x ∈ (es.modify j fun x => { x with key := .int .i64 n, val := v }).toList ↔ (x = { e0 with key := .int .i64 n, val := v } ∨ ∃ i, i ≠ j ∧ es.toList[i]? = some x) := by
        intro x
        rw [Array.toList_modify, List.mem_iff_getElem?]
        constructor
        · rintro ⟨i, hi⟩
          rw [List.getElem?_modify] at hi
          by_cases hij : j = i
          · subst hij
            rw [h2] at hi
            simp at hi
            exact .inl hi.symm
          · exact .inr ⟨i, Ne.symm hij, by simpa [hij] using hi⟩
        · rintro (rfl | ⟨i, hij, hi⟩)
          · exact ⟨j, by rw [List.getElem?_modify, h2]; simp⟩
          · exact ⟨i, by rw [List.getElem?_modify, hi]; simp [Ne.symm hij]⟩
      have hinj : ∀ i x, i ≠ j → es.toList[i]? = some x → x.key ≠ .int .i64 n := by
        intro i x hij hi hxk
        have a1 : (es.toList.map (·.key))[i]? = some (.int .i64 n) := by rw [List.getElem?_map, hi]; simp [hxk]
        have a2 : (es.toList.map (·.key))[j]? = some (.int .i64 n) := by rw [List.getElem?_map, h2]; simp [h3]
        have hil : i < (es.toList.map (·.key)).length := (List.getElem?_eq_some_iff.1 a1).1
        exact hij ((List.getElem?_inj hil hnd).1 (a1.trans a2.symm))
      by_cases hm : m = n
      · subst hm
        rw [if_pos rfl]
        refine ⟨fun h => ?_, fun ⟨x, hx, hxk, hxv⟩ => ?_⟩
        · cases h; exact ⟨_, (hmem _).2 (.inl rfl), rfl, rfl⟩
        · rcases (hmem x).1 hx with rfl | ⟨i, hij, hi⟩
          · rw [← hxv]
          · exact absurd hxk (hinj i x hij hi)
      · rw [if_neg hm, hf m u]
        refine ⟨fun ⟨x, hx, hxk, hxv⟩ => ?_, fun ⟨x, hx, hxk, hxv⟩ => ?_⟩
        · refine ⟨x, (hmem x).2 (.inr ?_), hxk, hxv⟩
          obtain ⟨i, hi⟩ := List.mem_iff_getElem?.1 hx
          refine ⟨i, fun e => ?_, hi⟩
          subst e
          rw [h2] at hi
          cases hi
          rw [h3] at hxk
          simp at hxk
          exact hm hxk.symm
        · rcases (hmem x).1 hx with rfl | ⟨i, hij, hi⟩
          · simp at hxk; exact absurd hxk.symm hm
          · exact ⟨x, List.mem_of_getElem? hi, hxk, hxv⟩
/-- m[k] = v -/
theorem upd_imap {ops : Array Oper} {rest : List Oper} {o : Oper} {a : Act} {Q : Exit → Act → World → Prop} {m x v : Operand} {n : Int} {val : Value} (h : IMap w b f) (ht : P.underlying t = some (.map k e)) (hk : P.underlying k = some (.int .i64))
    (hK : ∀ w', IMap w' b (fun m => if m = n then some val else f m) → Touch [b] w w' → wpList P ops Q rest (a.put o.dst undef) w')
    (hg : o.guard = none := by rfl) (hop : o.op = Op.mapUpdate t m x v := by rfl) (hm : a.eval m = .map (some b) := by rfl) (hx : a.eval x = .int .i64 n := by rfl) (hv : a.eval v = val := by rfl) :
    wpList P ops Q (o :: rest) a w := by
  refine wpList_plain hg fun K' hK' => ?_
  obtain ⟨w', hrun, r1, r2⟩ := h.update (P := P) ht hk n val
  unfold Oper.wp
  simp [execOp, hop, hm, hx, hv, hrun, Result.andThen]
  exact hK' _ _ (hK w' r1 r2)
end
end Go.Proofs.YtpbknnkobhjjcaaDoor
