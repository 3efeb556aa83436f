/- Package band: the table of targets with its values: Valid, Blocks. -/
import Derived.Test.YtphpkalbbmlgoaaGreatDoorChecked
import Derived.Test.YtphpkalbbmlgoaaGreatDoorFill
import Derived.MapKept
import Derived.Laws.StructEq
namespace Go.Proofs.YtphpkalbbmlgoaaGreatDoor
open Go.RowKit
set_option linter.unusedSimpArgs false

def Tg (n : Int) : Value := .agg #[.int .i64 n]

def targets : List Int := [24, 23, 21, 19, 18, 14, 13, 12, 10, 8, 7]

def blkN (n : Int) : Int := match n with
  | .ofNat 24 => 12 | .ofNat 23 => 11 | .ofNat 21 => 10 | .ofNat 19 => 9 | .ofNat 18 => 8 | .ofNat 14 => 7 | .ofNat 13 => 6 | .ofNat 12 => 5 | .ofNat 10 => 4 | .ofNat 8 => 3 | .ofNat 7 => 2 | _ => 0

theorem blkN_out (n : Int) (h : n ∉ targets) : blkN n = 0 := by
  unfold blkN
  split <;> first | rfl | exact absurd (by decide) h

def kv (e : MapEntry) : Value × Value := (e.key, e.val)

def kn (n : Int) : Value × Value := (Tg n, .int .i64 (blkN n))

def TMap (w : World) (r : Nat) (ks : List Int) : Prop := ∃ es clock, w.heap[r]? = some (.map es clock) ∧ es.toList.map kv = ks.map kn

theorem tg_equal (a b : Int) (w : World) : (Op.equal 55 (Tg a) (Tg b)).run Tryz.prog w = .ok (a == b) w := by
  have u3 := Tryz.underlying3
  have hS : Tryz.prog.underlying 55 = some (.struct (Tryz.prog.fieldsOf 55)) := by kernel_rfl
  unfold Op.equal Op.maxDepth Tg
  rw [show (10000 : Nat) = 9999 + 1 from rfl, run_equalIn_agg w 9999 55 _ _ hS (by kernel_rfl)]
  simp only [Program.fieldsOf, Tryz.underlying55]
  go_simp
  by_cases h : a = b <;> simp [h]

theorem tg_check (b : Bool) (n : Int) (w : World) : (Instr.checkKey b 10000 55 (Tg n)).run Tryz.prog w = .ok () w := by kernel_rfl

theorem tg_ask (n : Int) (w : World) : ∀ (es : List MapEntry) (ks : List Int) (i : Nat), es.map kv = ks.map kn → ∃ r, (Instr.findAsking 55 (Tg n) es i).run Tryz.prog w = .ok r w ∧ r.isSome = decide (n ∈ ks) ∧ ∀ x, r = some x → x.2 = .int .i64 (blkN n)
  | [], ks, i, h => by
    cases ks with
    | nil => exact ⟨none, rfl, by simp, fun x hx => by cases hx⟩
    | cons k ks => simp at h
  | e :: es, ks, i, h => by
    cases ks with
    | nil => simp at h
    | cons k ks =>
      rw [List.map_cons, List.map_cons] at h
      injection h with h0 h2
      have h1 : e.key = Tg k := congrArg Prod.fst h0
      have h3 : e.val = .int .i64 (blkN k) := congrArg Prod.snd h0
      obtain ⟨r, hr, hi, hv⟩ := tg_ask n w es ks (i + 1) h2
      unfold Instr.findAsking
      rw [Sem.run_bind, h1, tg_equal, Result.andThen_ok]
      by_cases hk : n = k
      · have : (n == k) = true := by simp [hk]
        rw [this]
        exact ⟨_, rfl, by simp [hk], fun x hx => by cases hx; rw [hk]; exact h3⟩
      · have : (n == k) = false := by simpa using hk
        rw [this]
        refine ⟨r, ?_, by rw [hi]; simp [hk], hv⟩
        exact hr

theorem tg_find (n : Int) (w : World) (es : List MapEntry) (ks : List Int) (h : es.map kv = ks.map kn) : ∃ r, (Instr.findKey 55 (Tg n) es).run Tryz.prog w = .ok r w ∧ r.isSome = decide (n ∈ ks) ∧ ∀ x, r = some x → x.2 = .int .i64 (blkN n) := by
  unfold Instr.findKey
  rw [Sem.run_bind, run_underlying Tryz.underlying55, Result.andThen_ok]
  cases es with
  | nil =>
    cases ks with
    | nil => exact ⟨none, rfl, by simp, fun x hx => by cases hx⟩
    | cons k ks => simp at h
  | cons e es =>
    obtain ⟨r, hr, hi, hv⟩ := tg_ask n w (e :: es) ks 0 h
    refine ⟨r, ?_, hi, hv⟩
    have hn : ∀ fs, Instr.findNow (.struct fs) (Tg n) (e :: es) 0 = none := fun fs => rfl
    rw [hn]
    exact hr

theorem tg_insert (n : Int) (w : World) (r : Nat) (ks : List Int) (h : TMap w r ks) (hn : n ∉ ks) : ∃ w', (Instr.mapUpdate 419 (.map (some r)) (Tg n) (.int .i64 (blkN n))).run Tryz.prog w = .ok () w' ∧ TMap w' r (ks ++ [n]) ∧ Touch [r] w w' := by
  obtain ⟨es, clock, hb, hk⟩ := h
  obtain ⟨res, hf, hi, -⟩ := tg_find n w es.toList ks hk
  have hres : res = none := by
    rw [decide_eq_false hn] at hi
    simpa using hi
  subst hres
  refine ⟨{ w with heap := w.heap.setIfInBounds r (.map (es.push { key := Tg n, val := .int .i64 (blkN n), born := clock }) (clock + 1)) }, ?_, ?_, ?_⟩
  · unfold Instr.mapUpdate
    simp only [Sem.run_bind, run_underlying Tryz.underlying419, Result.andThen_ok, MapKept.run_getObj_map hb, tg_check, hf, MapKept.run_setObj_map _ hb]
  · have hlt := (Array.getElem?_eq_some_iff.1 hb).1
    refine ⟨es.push { key := Tg n, val := .int .i64 (blkN n), born := clock }, clock + 1, by simp [hlt], ?_⟩
    rw [Array.toList_push, List.map_append, hk, List.map_append]
    rfl
  · refine ⟨rfl, rfl, rfl, by simp, fun k _ hkr => ?_⟩
    have : k ≠ r := by simpa using hkr
    show (w.heap.setIfInBounds r _)[k]? = _
    rw [Array.getElem?_setIfInBounds_ne (Ne.symm this)]

theorem tg_look (n : Int) (w : World) (r : Nat) (ks : List Int) (h : TMap w r ks) (hks : ∀ n, n ∈ ks ↔ n ∈ targets) : (Instr.lookup 419 (.map (some r)) (Tg n) true).run Tryz.prog w = .ok (.tuple #[.int .i64 (blkN n), .bool (decide (n ∈ ks))]) w := by
  obtain ⟨es, clock, hb, hk⟩ := h
  obtain ⟨res, hf, hi, hx⟩ := tg_find n w es.toList ks hk
  have hz : (zeroValue 3).run Tryz.prog w = .ok (.int .i64 0) w := by kernel_rfl
  unfold Instr.lookup
  simp only [Sem.run_bind, Sem.run_pure, run_underlying Tryz.underlying419, Result.andThen_ok, MapKept.run_getObj_map hb, tg_check, hf]
  cases res with
  | none =>
    have hn : n ∉ targets := fun hc => by rw [Option.isSome_none, decide_eq_true ((hks n).2 hc)] at hi; cases hi
    rw [blkN_out n hn, ← hi]
    simp only [Sem.run_bind, Sem.run_pure, Result.andThen_ok, hz, if_true, Option.isSome_none]
  | some x =>
    rw [← hx x rfl, ← hi]
    simp only [Sem.run_bind, Sem.run_pure, Result.andThen_ok, if_true, Option.isSome_some]

theorem run_insert {P : Program} (ρ : Operand → Value) (o : Oper) (t : TypeId) (m k x : Operand) (h : o.op = .insert t m k x) (W : World) : (execOp ρ o).run P W = ((Instr.mapUpdate t (ρ m) (ρ k) (ρ x)).run P W).andThen fun _ W' => .ok .skip W' := by
  unfold execOp
  rw [h]
  simp only [Sem.run_bind, Sem.run_pure]

def tgB (n : Int) : Bool := decide (n ∈ targets)

def insIx : List Nat := [2, 4, 6, 8, 10, 12, 14, 16, 18, 20, 22]

def keyOf (i : Nat) : Int := targets.getD (i / 2 - 1) 0

theorem keyOf_inj : ∀ i ∈ insIx, ∀ j ∈ insIx, keyOf i = keyOf j → i = j := by decide

theorem keyOf_map : insIx.map keyOf = targets := by decide

theorem keyOf_all {ds : List Nat} (h : ∀ i, i ∈ ds ↔ i ∈ insIx) (n : Int) : n ∈ ds.map keyOf ↔ n ∈ targets := by
  rw [← keyOf_map, List.mem_map, List.mem_map]
  exact ⟨fun ⟨i, hi, e⟩ => ⟨i, (h i).1 hi, e⟩, fun ⟨i, hi, e⟩ => ⟨i, (h i).2 hi, e⟩⟩

set_option maxRecDepth 100000 in
set_option maxHeartbeats 4000000 in
theorem blocks_any (w : World) : Calls Tryz.prog 220 #[] w fun r w' => ∃ m ks, r = .returned (.map (some m)) ∧ TMap w' m ks ∧ (∀ n, n ∈ ks ↔ n ∈ targets) ∧ Touch [] w w' ∧ w.heap.size ≤ m := by
  have hb : ∀ (n : Int) (W : World), (Instr.build 55 #[(0, .int .i64 n)]).run Tryz.prog W = .ok (Tg n) W := fun n W => run_build W 55 _ _ (by kernel_rfl)
  go_enter Tryz.func220, Tryz.ntmps220
  go_wp2_with fail
  refine wp_region_held_drew (S := fun _ => True) (by kernel_rfl) trivial (fun hS => ?_)
  refine wpAnyH_take (i := 1) (v := ?_) rfl (by kernel_rfl) (by kernel_rfl) (by kernel_rfl) (fun _ _ _ h => h) (Or.inl ⟨by rfl, ?_⟩) hS ?_
  rotate_left
  · (intro W hSW; go_simp <;> with_reducible rfl)
  simp only [Act.put, List.setIfInBounds_toArray, List.set_cons_zero, List.set_cons_succ, List.getElem_toArray, List.getElem_cons_succ, List.getElem_cons_zero]
  refine wpAnyH_take (i := 3) (v := ?_) rfl (by kernel_rfl) (by kernel_rfl) (by kernel_rfl) (fun _ _ _ h => h) (Or.inl ⟨by rfl, ?_⟩) hS ?_
  rotate_left
  · (intro W hSW; go_simp <;> with_reducible rfl)
  simp only [Act.put, List.setIfInBounds_toArray, List.set_cons_zero, List.set_cons_succ, List.getElem_toArray, List.getElem_cons_succ, List.getElem_cons_zero]
  refine wpAnyH_take (i := 5) (v := ?_) rfl (by kernel_rfl) (by kernel_rfl) (by kernel_rfl) (fun _ _ _ h => h) (Or.inl ⟨by rfl, ?_⟩) hS ?_
  rotate_left
  · (intro W hSW; go_simp <;> with_reducible rfl)
  simp only [Act.put, List.setIfInBounds_toArray, List.set_cons_zero, List.set_cons_succ, List.getElem_toArray, List.getElem_cons_succ, List.getElem_cons_zero]
  refine wpAnyH_take (i := 7) (v := ?_) rfl (by kernel_rfl) (by kernel_rfl) (by kernel_rfl) (fun _ _ _ h => h) (Or.inl ⟨by rfl, ?_⟩) hS ?_
  rotate_left
  · (intro W hSW; go_simp <;> with_reducible rfl)
  simp only [Act.put, List.setIfInBounds_toArray, List.set_cons_zero, List.set_cons_succ, List.getElem_toArray, List.getElem_cons_succ, List.getElem_cons_zero]
  refine wpAnyH_take (i := 9) (v := ?_) rfl (by kernel_rfl) (by kernel_rfl) (by kernel_rfl) (fun _ _ _ h => h) (Or.inl ⟨by rfl, ?_⟩) hS ?_
  rotate_left
  · (intro W hSW; go_simp <;> with_reducible rfl)
  simp only [Act.put, List.setIfInBounds_toArray, List.set_cons_zero, List.set_cons_succ, List.getElem_toArray, List.getElem_cons_succ, List.getElem_cons_zero]
  refine wpAnyH_take (i := 11) (v := ?_) rfl (by kernel_rfl) (by kernel_rfl) (by kernel_rfl) (fun _ _ _ h => h) (Or.inl ⟨by rfl, ?_⟩) hS ?_
  rotate_left
  · (intro W hSW; go_simp <;> with_reducible rfl)
  simp only [Act.put, List.setIfInBounds_toArray, List.set_cons_zero, List.set_cons_succ, List.getElem_toArray, List.getElem_cons_succ, List.getElem_cons_zero]
  refine wpAnyH_take (i := 13) (v := ?_) rfl (by kernel_rfl) (by kernel_rfl) (by kernel_rfl) (fun _ _ _ h => h) (Or.inl ⟨by rfl, ?_⟩) hS ?_
  rotate_left
  · (intro W hSW; go_simp <;> with_reducible rfl)
  simp only [Act.put, List.setIfInBounds_toArray, List.set_cons_zero, List.set_cons_succ, List.getElem_toArray, List.getElem_cons_succ, List.getElem_cons_zero]
  refine wpAnyH_take (i := 15) (v := ?_) rfl (by kernel_rfl) (by kernel_rfl) (by kernel_rfl) (fun _ _ _ h => h) (Or.inl ⟨by rfl, ?_⟩) hS ?_
  rotate_left
  · (intro W hSW; go_simp <;> with_reducible rfl)
  simp only [Act.put, List.setIfInBounds_toArray, List.set_cons_zero, List.set_cons_succ, List.getElem_toArray, List.getElem_cons_succ, List.getElem_cons_zero]
  refine wpAnyH_take (i := 17) (v := ?_) rfl (by kernel_rfl) (by kernel_rfl) (by kernel_rfl) (fun _ _ _ h => h) (Or.inl ⟨by rfl, ?_⟩) hS ?_
  rotate_left
  · (intro W hSW; go_simp <;> with_reducible rfl)
  simp only [Act.put, List.setIfInBounds_toArray, List.set_cons_zero, List.set_cons_succ, List.getElem_toArray, List.getElem_cons_succ, List.getElem_cons_zero]
  refine wpAnyH_take (i := 19) (v := ?_) rfl (by kernel_rfl) (by kernel_rfl) (by kernel_rfl) (fun _ _ _ h => h) (Or.inl ⟨by rfl, ?_⟩) hS ?_
  rotate_left
  · (intro W hSW; go_simp <;> with_reducible rfl)
  simp only [Act.put, List.setIfInBounds_toArray, List.set_cons_zero, List.set_cons_succ, List.getElem_toArray, List.getElem_cons_succ, List.getElem_cons_zero]
  refine wpAnyH_take (i := 21) (v := ?_) rfl (by kernel_rfl) (by kernel_rfl) (by kernel_rfl) (fun _ _ _ h => h) (Or.inl ⟨by rfl, ?_⟩) hS ?_
  rotate_left
  · (intro W hSW; go_simp <;> with_reducible rfl)
  simp only [Act.put, List.setIfInBounds_toArray, List.set_cons_zero, List.set_cons_succ, List.getElem_toArray, List.getElem_cons_succ, List.getElem_cons_zero]
  refine wpAnyH_ready (rs := [0]) (by kernel_rfl) (by simp) (AllReadyH.cons rfl (fun K hK => ?_) AllReadyH.nil)
  go_simp
  refine hK.out _ _ trivial (fun _ => ?_)
  clear hK K
  try simp only [Act.put, List.setIfInBounds_toArray, List.set_cons_zero, List.set_cons_succ, List.getElem_toArray, List.getElem_cons_succ, List.getElem_cons_zero]
  show wpAnyH _ _ _ _ _ (2 + insIx.length) _ _ _
  refine fill_run insIx _ #[true, true, true, true, true, true, true, true, true, true, true, true, true, true, true, true, true, true, true, true, true, true, true, false, false] (by kernel_rfl) (by decide) _ (fun ds W => TMap W w.heap.size (ds.map keyOf) ∧ Touch [] w W ∧ ∀ j ∈ ds, j ∈ insIx) 2 _ (by kernel_rfl) (by kernel_rfl)
    ⟨⟨#[], 0, heap_alloc_new _ _, rfl⟩, ((Touch.refl [] w).drew).alloc _, by simp⟩ ?_ ?_
  · intro i hi o ho ds W hJ hnot
    obtain ⟨h1, h2, h3⟩ := hJ
    have hk : keyOf i ∉ ds.map keyOf := fun hm => by
      obtain ⟨j, hj, e⟩ := List.mem_map.1 hm
      exact hnot (keyOf_inj j (h3 j hj) i hi e ▸ hj)
    have hI := tg_insert (keyOf i) W _ _ h1 hk
    have key : ∀ ρ : Operand → Value, (execOp ρ o).run Tryz.prog W = ((Instr.mapUpdate 419 (.map (some w.heap.size)) (Tg (keyOf i)) (.int .i64 (blkN (keyOf i)))).run Tryz.prog W).andThen (fun _ W' => .ok .skip W') →
        ∃ w', (execOp ρ o).run Tryz.prog W = .ok .skip w' ∧ (TMap w' w.heap.size ((ds ++ [i]).map keyOf) ∧ Touch [] w w' ∧ ∀ j ∈ ds ++ [i], j ∈ insIx) ∧ True := fun ρ hv => by
      obtain ⟨w', hr, h4, h5⟩ := hI
      refine ⟨w', by rw [hv, hr]; rfl, ⟨?_, h2.step h5 (by simp), fun j hj => ?_⟩, trivial⟩
      · rw [List.map_append]
        exact h4
      · rcases List.mem_append.1 hj with h | h
        · exact h3 j h
        · rw [List.mem_singleton.1 h]
          exact hi
    refine key _ ?_
    clear key hI hk hnot h1 h2 h3
    simp only [insIx, List.mem_cons, List.not_mem_nil, or_false] at hi
    rcases hi with rfl | rfl | rfl | rfl | rfl | rfl | rfl | rfl | rfl | rfl | rfl
    all_goals (obtain rfl := Option.some.inj ho; exact (run_insert _ _ _ _ _ _ (by rfl) W).trans rfl)
  · intro ds W hJ hds
    obtain ⟨h1, h2, -⟩ := hJ
    refine wpAnyH_take (i := 23) (v := ?_) rfl (by kernel_rfl) (by kernel_rfl) (by kernel_rfl) (fun _ _ _ h => h) (Or.inl ⟨by rfl, ?_⟩) hS ?_
    rotate_left
    · (intro W hSW; go_simp <;> with_reducible rfl)
    simp only [Act.put, List.setIfInBounds_toArray, List.set_cons_zero, List.set_cons_succ, List.getElem_toArray, List.getElem_cons_succ, List.getElem_cons_zero]
    refine wpAnyH_take (i := 24) (v := ?_) rfl (by kernel_rfl) (by kernel_rfl) (by kernel_rfl) (fun _ _ _ h => h) (Or.inl ⟨by rfl, ?_⟩) hS ?_
    rotate_left
    · (intro W hSW; go_simp <;> with_reducible rfl)
    simp only [Act.put, List.setIfInBounds_toArray, List.set_cons_zero, List.set_cons_succ, List.getElem_toArray, List.getElem_cons_succ, List.getElem_cons_zero]
    refine wpAnyH_done (by kernel_rfl) ?_ _
    have HA := Lib.hid (keyOf_all hds)
    clear hds
    go_wp2_with fail
    go_ret
    exact ⟨_, _, rfl, h1, HA.out, h2, Nat.le_refl _⟩

theorem tg_look2 (n : Int) (w : World) (r : Nat) (ks : List Int) (h : TMap w r ks) (hk : ∀ n, n ∈ ks ↔ n ∈ targets) : (Instr.lookup 419 (.map (some r)) (.agg #[.int .i64 n]) true).run Tryz.prog w = .ok (.tuple #[.int .i64 (blkN n), .bool (tgB n)]) w := by
  have hv := tg_look n w r ks h hk
  have e : decide (n ∈ ks) = tgB n := decide_eq_decide.2 (hk n)
  rw [e] at hv
  exact hv

set_option maxRecDepth 100000 in
set_option maxHeartbeats 1000000 in
theorem tvalid_any (t : Int) (w : World) : Calls Tryz.prog 117 #[.agg #[.int .i64 t]] w fun r w' => r = .returned (.bool (tgB t)) ∧ Touch [] w w' := by
  have hblk := Blk.new w 55 #[.int .i64 t]
  have HC := Lib.hid (show (w.alloc (.cells #[.int .i64 t] 55)).cell? ⟨w.heap.size, 0, none⟩ = some (.int .i64 t) from hblk.cell 0)
  clear hblk
  go_enter Tryz.func117, Tryz.ntmps117
  go_wp2_with fail
  go_region_held3 (fun W => W.cell? ⟨w.heap.size, 0, none⟩ = some (.int .i64 t)) (first | exact HC.out | exact (ht1.cell (p := ⟨w.heap.size, 0, none⟩) (by simp) (by simp)).trans HC.out) (first | (go_at_call 220; refine (blocks_any _).mono ?_; rintro r w1 ⟨m, ks, rfl, hm, hks, ht, hge⟩; have ht1 : Touch [] (w.alloc (.cells #[.int .i64 t] 55)) w1 := ⟨ht.os, ht.tape, ht.output, ht.size, ht.block⟩; have hl := tg_look2 t w1 m ks hm hks; clear hks hm))
  all_goals
    go_wp2_with fail
    go_ret
    exact ⟨rfl, ((Touch.refl [] w).alloc _).then0 ht1⟩

set_option maxRecDepth 100000 in
set_option maxHeartbeats 1000000 in
theorem tblocks_any (t : Int) (w : World) : Calls Tryz.prog 134 #[.agg #[.int .i64 t]] w fun r w' => r = .returned (.tuple #[.int .i64 (blkN t), .int .i64 (if tgB t = true then 0 else 2)]) ∧ Touch [] w w' := by
  have hblk := Blk.new w 55 #[.int .i64 t]
  have HC := Lib.hid (show (w.alloc (.cells #[.int .i64 t] 55)).cell? ⟨w.heap.size, 0, none⟩ = some (.int .i64 t) from hblk.cell 0)
  clear hblk
  cases hb : tgB t with
  | true =>
    simp only [if_true]
    go_enter Tryz.func134, Tryz.ntmps134
    go_wp2_with fail
    go_region_held3 (fun W => W.cell? ⟨w.heap.size, 0, none⟩ = some (.int .i64 t)) (first | exact HC.out | exact (ht1.cell (p := ⟨w.heap.size, 0, none⟩) (by simp) (by simp)).trans HC.out) (first | (go_at_call 220; refine (blocks_any _).mono ?_; rintro r w1 ⟨m, ks, rfl, hm, hks, ht, hge⟩; have ht1 : Touch [] (w.alloc (.cells #[.int .i64 t] 55)) w1 := ⟨ht.os, ht.tape, ht.output, ht.size, ht.block⟩; have hl := tg_look2 t w1 m ks hm hks; rw [hb] at hl; clear hks hm))
    all_goals
      go_wp2_with fail
      go_ret2
      exact ⟨rfl, ((Touch.refl [] w).alloc _).then0 ht1⟩
  | false =>
    have h0 : blkN t = 0 := blkN_out t (fun hc => by rw [show tgB t = true from decide_eq_true hc] at hb; cases hb)
    rw [h0]
    simp only [Bool.false_eq_true, if_false]
    go_enter Tryz.func134, Tryz.ntmps134
    go_wp2_with fail
    go_region_held3 (fun W => W.cell? ⟨w.heap.size, 0, none⟩ = some (.int .i64 t)) (first | exact HC.out | exact (ht1.cell (p := ⟨w.heap.size, 0, none⟩) (by simp) (by simp)).trans HC.out) (first | (go_at_call 220; refine (blocks_any _).mono ?_; rintro r w1 ⟨m, ks, rfl, hm, hks, ht, hge⟩; have ht1 : Touch [] (w.alloc (.cells #[.int .i64 t] 55)) w1 := ⟨ht.os, ht.tape, ht.output, ht.size, ht.block⟩; have hl := tg_look2 t w1 m ks hm hks; rw [hb, h0] at hl; clear hks hm))
    all_goals
      go_wp2_with fail
      go_ret2
      exact ⟨rfl, ((Touch.refl [] w).alloc _).then0 ht1⟩

end Go.Proofs.YtphpkalbbmlgoaaGreatDoor
