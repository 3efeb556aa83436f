/- Package band: the table of targets (after XBand; without package option). -/
import Derived.Test.YtmnaddlniaklcaaGreatDoorChecked
import Derived.Test.YtmnaddlniaklcaaGreatDoorFill
import Derived.MapKept
import Derived.Laws.StructEq
namespace Go.Proofs.YtmnaddlniaklcaaGreatDoor
open Go.RowKit
set_option linter.unusedSimpArgs false

def Tg (n : Int) : Value := .agg #[.int .i64 n]
/-- Block r is a map whose keys are the targets ks. -/
def TMap (w : World) (r : Nat) (ks : List Int) : Prop := ∃ es clock, w.heap[r]? = some (.map es clock) ∧ es.toList.map (·.key) = ks.map Tg

theorem tg_equal (a b : Int) (w : World) : (Op.equal 56 (Tg a) (Tg b)).run Tryz.prog w = .ok (a == b) w := by
  have u3 := Tryz.underlying3
  have hS : Tryz.prog.underlying 56 = some (.struct (Tryz.prog.fieldsOf 56)) := by kernel_rfl
  unfold Op.equal Op.maxDepth Tg
  rw [show (10000 : Nat) = 9999 + 1 from rfl, run_equalIn_agg w 9999 56 _ _ hS (by kernel_rfl)]
  simp only [Program.fieldsOf, Tryz.underlying56]
  go_simp
  by_cases h : a = b <;> simp [h]
theorem tg_check (b : Bool) (n : Int) (w : World) : (Instr.checkKey b 10000 56 (Tg n)).run Tryz.prog w = .ok () w := by kernel_rfl
theorem tg_ask (n : Int) (w : World) : ∀ (es : List MapEntry) (ks : List Int) (i : Nat), es.map (·.key) = ks.map Tg → ∃ r, (Instr.findAsking 56 (Tg n) es i).run Tryz.prog w = .ok r w ∧ r.isSome = decide (n ∈ ks)
  | [], ks, i, h => by
    cases ks with
    | nil => exact ⟨none, rfl, by simp⟩
    | cons k ks => simp at h
  | e :: es, ks, i, h => by
    cases ks with
    | nil => simp at h
    | cons k ks =>
      rw [List.map_cons, List.map_cons] at h
      injection h with h1 h2
      obtain ⟨r, hr, hi⟩ := tg_ask n w es ks (i + 1) h2
      unfold Instr.findAsking
      rw [Sem.run_bind, h1, tg_equal, Result.andThen_ok]
      by_cases hk : n = k
      · have : (n == k) = true := by simp [hk]
        rw [this]
        exact ⟨_, rfl, by simp [hk]⟩
      · have : (n == k) = false := by simpa using hk
        rw [this]
        refine ⟨r, ?_, by rw [hi]; simp [hk]⟩
        exact hr
theorem tg_find (n : Int) (w : World) (es : List MapEntry) (ks : List Int) (h : es.map (·.key) = ks.map Tg) : ∃ r, (Instr.findKey 56 (Tg n) es).run Tryz.prog w = .ok r w ∧ r.isSome = decide (n ∈ ks) := by
  unfold Instr.findKey
  rw [Sem.run_bind, run_underlying Tryz.underlying56, Result.andThen_ok]
  cases es with
  | nil =>
    cases ks with
    | nil => exact ⟨none, rfl, by simp⟩
    | cons k ks => simp at h
  | cons e es =>
    obtain ⟨r, hr, hi⟩ := tg_ask n w (e :: es) ks 0 h
    refine ⟨r, ?_, hi⟩
    have hn : ∀ fs, Instr.findNow (.struct fs) (Tg n) (e :: es) 0 = none := fun fs => rfl
    rw [hn]
    exact hr

theorem tg_insert (n : Int) (v : Value) (w : World) (r : Nat) (ks : List Int) (h : TMap w r ks) (hn : n ∉ ks) : ∃ w', (Instr.mapUpdate 304 (.map (some r)) (Tg n) v).run Tryz.prog w = .ok () w' ∧ TMap w' r (ks ++ [n]) ∧ Touch [r] w w' := by
  obtain ⟨es, clock, hb, hk⟩ := h
  obtain ⟨res, hf, hi⟩ := tg_find n w es.toList ks hk
  have hres : res = none := by
    rw [decide_eq_false hn] at hi
    simpa using hi
  subst hres
  refine ⟨{ w with heap := w.heap.setIfInBounds r (.map (es.push { key := Tg n, val := v, born := clock }) (clock + 1)) }, ?_, ?_, ?_⟩
  · unfold Instr.mapUpdate
    simp only [Sem.run_bind, run_underlying Tryz.underlying304, Result.andThen_ok, MapKept.run_getObj_map hb, tg_check, hf, MapKept.run_setObj_map _ hb]
  · have hlt := (Array.getElem?_eq_some_iff.1 hb).1
    refine ⟨es.push { key := Tg n, val := v, born := clock }, clock + 1, by simp [hlt], ?_⟩
    rw [Array.toList_push, List.map_append, hk, List.map_append]
    rfl
  · refine ⟨rfl, rfl, rfl, by simp, fun k _ hkr => ?_⟩
    have : k ≠ r := by simpa using hkr
    show (w.heap.setIfInBounds r _)[k]? = _
    rw [Array.getElem?_setIfInBounds_ne (Ne.symm this)]
theorem tg_look (n : Int) (w : World) (r : Nat) (ks : List Int) (h : TMap w r ks) : ∃ v, (Instr.lookup 304 (.map (some r)) (Tg n) true).run Tryz.prog w = .ok (.tuple #[v, .bool (decide (n ∈ ks))]) w := by
  obtain ⟨es, clock, hb, hk⟩ := h
  obtain ⟨res, hf, hi⟩ := tg_find n w es.toList ks hk
  have hz : (zeroValue 3).run Tryz.prog w = .ok (.int .i64 0) w := by kernel_rfl
  unfold Instr.lookup
  simp only [Sem.run_bind, Sem.run_pure, run_underlying Tryz.underlying304, Result.andThen_ok, MapKept.run_getObj_map hb, tg_check, hf]
  rw [← hi]
  cases res with
  | none => exact ⟨.int .i64 0, by simp only [Sem.run_bind, Sem.run_pure, Result.andThen_ok, hz, if_true, Option.isSome_none]⟩
  | some x => exact ⟨x.2, by simp only [Sem.run_bind, Sem.run_pure, Result.andThen_ok, if_true, Option.isSome_some]⟩
theorem run_insert {P : Program} (ρ : Operand → Value) (o : Oper) (t : TypeId) (m k x : Operand) (h : o.op = .insert t m k x) (W : World) : (execOp ρ o).run P W = ((Instr.mapUpdate t (ρ m) (ρ k) (ρ x)).run P W).andThen fun _ W' => .ok .skip W' := by
  unfold execOp
  rw [h]
  simp only [Sem.run_bind, Sem.run_pure]
/-- The targets, in the order of the table's text. -/
def targets : List Int := [24, 23, 21, 19, 18, 14, 13, 12, 10, 8, 7]
def tgB (n : Int) : Bool := decide (n ∈ targets)
def insIx : List Nat := [2, 4, 6, 8, 10, 12, 14, 16, 18, 20, 22]
def keyOf (i : Nat) : Int := targets.getD (i / 2 - 1) 0
theorem keyOf_inj : ∀ i ∈ insIx, ∀ j ∈ insIx, keyOf i = keyOf j → i = j := by decide
theorem keyOf_map : insIx.map keyOf = targets := by decide
theorem keyOf_all {ds : List Nat} (h : ∀ i, i ∈ ds ↔ i ∈ insIx) (n : Int) : n ∈ ds.map keyOf ↔ n ∈ targets := by
  rw [← keyOf_map, List.mem_map, List.mem_map]
  exact ⟨fun ⟨i, hi, e⟩ => ⟨i, (h i).1 hi, e⟩, fun ⟨i, hi, e⟩ => ⟨i, (h i).2 hi, e⟩⟩
set_option maxRecDepth 100000 in
set_option maxHeartbeats 4000000 in
theorem blocks_any (w : World) : Calls Tryz.prog 197 #[] w fun r w' => ∃ m ks, r = .returned (.map (some m)) ∧ TMap w' m ks ∧ (∀ n, n ∈ ks ↔ n ∈ targets) ∧ Touch [] w w' ∧ w.heap.size ≤ m := by
  have hb : ∀ (n : Int) (W : World), (Instr.build 56 #[(0, .int .i64 n)]).run Tryz.prog W = .ok (Tg n) W := fun n W => run_build W 56 _ _ (by kernel_rfl)
  go_enter Tryz.func197, Tryz.ntmps197
  go_wp2_with fail
  refine wp_region_held_drew (S := fun _ => True) (by kernel_rfl) trivial (fun hS => ?_)
  refine wpAnyH_take (i := 1) (v := ?_) rfl (by kernel_rfl) (by kernel_rfl) (by kernel_rfl) (fun _ _ _ h => h) (Or.inl ⟨by rfl, ?_⟩) hS ?_
  rotate_left
  · (intro W hSW; go_simp <;> with_reducible rfl)
  simp only [Act.put, List.setIfInBounds_toArray, List.set_cons_zero, List.set_cons_succ, List.getElem_toArray, List.getElem_cons_succ, List.getElem_cons_zero]
  refine wpAnyH_take (i := 3) (v := ?_) rfl (by kernel_rfl) (by kernel_rfl) (by kernel_rfl) (fun _ _ _ h => h) (Or.inl ⟨by rfl, ?_⟩) hS ?_
  rotate_left
  · (intro W hSW; go_simp <;> with_reducible rfl)
  simp only [Act.put, List.setIfInBounds_toArray, List.set_cons_zero, List.set_cons_succ, List.getElem_toArray, List.getElem_cons_succ, List.getElem_cons_zero]
  refine wpAnyH_take (i := 5) (v := ?_) rfl (by kernel_rfl) (by kernel_rfl) (by kernel_rfl) (fun _ _ _ h => h) (Or.inl ⟨by rfl, ?_⟩) hS ?_
  rotate_left
  · (intro W hSW; go_simp <;> with_reducible rfl)
  simp only [Act.put, List.setIfInBounds_toArray, List.set_cons_zero, List.set_cons_succ, List.getElem_toArray, List.getElem_cons_succ, List.getElem_cons_zero]
  refine wpAnyH_take (i := 7) (v := ?_) rfl (by kernel_rfl) (by kernel_rfl) (by kernel_rfl) (fun _ _ _ h => h) (Or.inl ⟨by rfl, ?_⟩) hS ?_
  rotate_left
  · (intro W hSW; go_simp <;> with_reducible rfl)
  simp only [Act.put, List.setIfInBounds_toArray, List.set_cons_zero, List.set_cons_succ, List.getElem_toArray, List.getElem_cons_succ, List.getElem_cons_zero]
  refine wpAnyH_take (i := 9) (v := ?_) rfl (by kernel_rfl) (by kernel_rfl) (by kernel_rfl) (fun _ _ _ h => h) (Or.inl ⟨by rfl, ?_⟩) hS ?_
  rotate_left
  · (intro W hSW; go_simp <;> with_reducible rfl)
  simp only [Act.put, List.setIfInBounds_toArray, List.set_cons_zero, List.set_cons_succ, List.getElem_toArray, List.getElem_cons_succ, List.getElem_cons_zero]
  refine wpAnyH_take (i := 11) (v := ?_) rfl (by kernel_rfl) (by kernel_rfl) (by kernel_rfl) (fun _ _ _ h => h) (Or.inl ⟨by rfl, ?_⟩) hS ?_
  rotate_left
  · (intro W hSW; go_simp <;> with_reducible rfl)
  simp only [Act.put, List.setIfInBounds_toArray, List.set_cons_zero, List.set_cons_succ, List.getElem_toArray, List.getElem_cons_succ, List.getElem_cons_zero]
  refine wpAnyH_take (i := 13) (v := ?_) rfl (by kernel_rfl) (by kernel_rfl) (by kernel_rfl) (fun _ _ _ h => h) (Or.inl ⟨by rfl, ?_⟩) hS ?_
  rotate_left
  · (intro W hSW; go_simp <;> with_reducible rfl)
  simp only [Act.put, List.setIfInBounds_toArray, List.set_cons_zero, List.set_cons_succ, List.getElem_toArray, List.getElem_cons_succ, List.getElem_cons_zero]
  refine wpAnyH_take (i := 15) (v := ?_) rfl (by kernel_rfl) (by kernel_rfl) (by kernel_rfl) (fun _ _ _ h => h) (Or.inl ⟨by rfl, ?_⟩) hS ?_
  rotate_left
  · (intro W hSW; go_simp <;> with_reducible rfl)
  simp only [Act.put, List.setIfInBounds_toArray, List.set_cons_zero, List.set_cons_succ, List.getElem_toArray, List.getElem_cons_succ, List.getElem_cons_zero]
  refine wpAnyH_take (i := 17) (v := ?_) rfl (by kernel_rfl) (by kernel_rfl) (by kernel_rfl) (fun _ _ _ h => h) (Or.inl ⟨by rfl, ?_⟩) hS ?_
  rotate_left
  · (intro W hSW; go_simp <;> with_reducible rfl)
  simp only [Act.put, List.setIfInBounds_toArray, List.set_cons_zero, List.set_cons_succ, List.getElem_toArray, List.getElem_cons_succ, List.getElem_cons_zero]
  refine wpAnyH_take (i := 19) (v := ?_) rfl (by kernel_rfl) (by kernel_rfl) (by kernel_rfl) (fun _ _ _ h => h) (Or.inl ⟨by rfl, ?_⟩) hS ?_
  rotate_left
  · (intro W hSW; go_simp <;> with_reducible rfl)
  simp only [Act.put, List.setIfInBounds_toArray, List.set_cons_zero, List.set_cons_succ, List.getElem_toArray, List.getElem_cons_succ, List.getElem_cons_zero]
  refine wpAnyH_take (i := 21) (v := ?_) rfl (by kernel_rfl) (by kernel_rfl) (by kernel_rfl) (fun _ _ _ h => h) (Or.inl ⟨by rfl, ?_⟩) hS ?_
  rotate_left
  · (intro W hSW; go_simp <;> with_reducible rfl)
  simp only [Act.put, List.setIfInBounds_toArray, List.set_cons_zero, List.set_cons_succ, List.getElem_toArray, List.getElem_cons_succ, List.getElem_cons_zero]
  refine wpAnyH_ready (rs := [0]) (by kernel_rfl) (by simp) (AllReadyH.cons rfl (fun K hK => ?_) AllReadyH.nil)
  go_simp
  refine hK.out _ _ trivial (fun _ => ?_)
  clear hK K
  try simp only [Act.put, List.setIfInBounds_toArray, List.set_cons_zero, List.set_cons_succ, List.getElem_toArray, List.getElem_cons_succ, List.getElem_cons_zero]
  show wpAnyH _ _ _ _ _ (2 + insIx.length) _ _ _
  refine fill_run insIx _ #[true, true, true, true, true, true, true, true, true, true, true, true, true, true, true, true, true, true, true, true, true, true, true, false, false] (by kernel_rfl) (by decide) _ (fun ds W => TMap W w.heap.size (ds.map keyOf) ∧ Touch [] w W ∧ ∀ j ∈ ds, j ∈ insIx) 2 _ (by kernel_rfl) (by kernel_rfl)
    ⟨⟨#[], 0, heap_alloc_new _ _, rfl⟩, ((Touch.refl [] w).drew).alloc _, by simp⟩ ?_ ?_
  · intro i hi o ho ds W hJ hnot
    obtain ⟨h1, h2, h3⟩ := hJ
    have hk : keyOf i ∉ ds.map keyOf := fun hm => by
      obtain ⟨j, hj, e⟩ := List.mem_map.1 hm
      exact hnot (keyOf_inj j (h3 j hj) i hi e ▸ hj)
    have hI := fun v => tg_insert (keyOf i) v W _ _ h1 hk
    have key : ∀ ρ : Operand → Value, (∃ v, (execOp ρ o).run Tryz.prog W = ((Instr.mapUpdate 304 (.map (some w.heap.size)) (Tg (keyOf i)) v).run Tryz.prog W).andThen fun _ W' => .ok .skip W') →
        ∃ w', (execOp ρ o).run Tryz.prog W = .ok .skip w' ∧ (TMap w' w.heap.size ((ds ++ [i]).map keyOf) ∧ Touch [] w w' ∧ ∀ j ∈ ds ++ [i], j ∈ insIx) ∧ True := fun ρ ⟨v, hv⟩ => by
      obtain ⟨w', hr, h4, h5⟩ := hI v
      refine ⟨w', by rw [hv, hr]; rfl, ⟨?_, h2.step h5 (by simp), fun j hj => ?_⟩, trivial⟩
      · rw [List.map_append]
        exact h4
      · rcases List.mem_append.1 hj with h | h
        · exact h3 j h
        · rw [List.mem_singleton.1 h]
          exact hi
    refine key _ ?_
    clear key hI hk hnot h1 h2 h3
    simp only [insIx, List.mem_cons, List.not_mem_nil, or_false] at hi
    rcases hi with rfl | rfl | rfl | rfl | rfl | rfl | rfl | rfl | rfl | rfl | rfl
    all_goals (obtain rfl := Option.some.inj ho; exact ⟨_, (run_insert _ _ _ _ _ _ (by rfl) W).trans rfl⟩)
  · intro ds W hJ hds
    obtain ⟨h1, h2, -⟩ := hJ
    refine wpAnyH_take (i := 23) (v := ?_) rfl (by kernel_rfl) (by kernel_rfl) (by kernel_rfl) (fun _ _ _ h => h) (Or.inl ⟨by rfl, ?_⟩) hS ?_
    rotate_left
    · (intro W hSW; go_simp <;> with_reducible rfl)
    simp only [Act.put, List.setIfInBounds_toArray, List.set_cons_zero, List.set_cons_succ, List.getElem_toArray, List.getElem_cons_succ, List.getElem_cons_zero]
    refine wpAnyH_take (i := 24) (v := ?_) rfl (by kernel_rfl) (by kernel_rfl) (by kernel_rfl) (fun _ _ _ h => h) (Or.inl ⟨by rfl, ?_⟩) hS ?_
    rotate_left
    · (intro W hSW; go_simp <;> with_reducible rfl)
    simp only [Act.put, List.setIfInBounds_toArray, List.set_cons_zero, List.set_cons_succ, List.getElem_toArray, List.getElem_cons_succ, List.getElem_cons_zero]
    refine wpAnyH_done (by kernel_rfl) ?_ _
    have HA := Lib.hid (keyOf_all hds)
    clear hds
    go_wp2_with fail
    go_ret
    exact ⟨_, _, rfl, h1, HA.out, h2, Nat.le_refl _⟩
theorem tg_look2 (n : Int) (w : World) (r : Nat) (ks : List Int) (h : TMap w r ks) (hk : ∀ n, n ∈ ks ↔ n ∈ targets) : ∃ v, (Instr.lookup 304 (.map (some r)) (.agg #[.int .i64 n]) true).run Tryz.prog w = .ok (.tuple #[v, .bool (tgB n)]) w := by
  obtain ⟨v, hv⟩ := tg_look n w r ks h
  have e : decide (n ∈ ks) = tgB n := decide_eq_decide.2 (hk n)
  rw [e] at hv
  exact ⟨v, hv⟩
set_option maxRecDepth 100000 in
set_option maxHeartbeats 1000000 in
theorem tvalid_any (t : Int) (w : World) : Calls Tryz.prog 109 #[.agg #[.int .i64 t]] w fun r w' => r = .returned (.bool (tgB t)) ∧ Touch [] w w' := by
  have hblk := Blk.new w 56 #[.int .i64 t]
  have HC := Lib.hid (show (w.alloc (.cells #[.int .i64 t] 56)).cell? ⟨w.heap.size, 0, none⟩ = some (.int .i64 t) from hblk.cell 0)
  clear hblk
  go_enter Tryz.func109, Tryz.ntmps109
  go_wp2_with fail
  go_region_held3 (fun W => W.cell? ⟨w.heap.size, 0, none⟩ = some (.int .i64 t)) (first | exact HC.out | exact (ht1.cell (p := ⟨w.heap.size, 0, none⟩) (by simp) (by simp)).trans HC.out) (first | (go_at_call 197; refine (blocks_any _).mono ?_; rintro r w1 ⟨m, ks, rfl, hm, hks, ht, hge⟩; have ht1 : Touch [] (w.alloc (.cells #[.int .i64 t] 56)) w1 := ⟨ht.os, ht.tape, ht.output, ht.size, ht.block⟩; obtain ⟨v, hl⟩ := tg_look2 t w1 m ks hm hks; clear hks hm))
  all_goals
    go_wp2_with fail
    go_ret
    exact ⟨rfl, ((Touch.refl [] w).alloc _).then0 ht1⟩

end Go.Proofs.YtmnaddlniaklcaaGreatDoor
