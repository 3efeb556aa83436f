/- The order of a region, by hand: the condition on the worlds may be made stronger on the way. No program in sight. -/
import Derived.Test.YtphpkalbbmlgoaaGreatDoorBase
import Derived.Deep.DeepCutAuto
import Derived.Test.YtphpkalbbmlgoaaGreatDoorChecked
import Derived.MapKept
import Derived.Laws.StructEq
namespace Go.Proofs.YtphpkalbbmlgoaaGreatDoor
open Go.RowKit

end Go.Proofs.YtphpkalbbmlgoaaGreatDoor

namespace Go.Proofs.YtphpkalbbmlgoaaGreatDoor
open Go.RowKit

section
variable {P : Program} {ops : Array Oper} {Q : Exit → Act → World → Prop} {md : Region.Mode} {S : World → Prop}

def unl (ins : List Nat) (listed : Array Bool) : List Nat := ins.filter fun i => !listed.getD i true

theorem unl_set {ins : List Nat} {listed : Array Bool} {i : Nat} (hnd : ins.Nodup) (hi : i ∈ ins) (hl : listed.getD i true = false) : (unl ins (listed.setIfInBounds i true)).length + 1 = (unl ins listed).length := by
  induction ins with
  | nil => simp at hi
  | cons j ins ih =>
    have hnd' := List.nodup_cons.1 hnd
    unfold unl at ih ⊢
    rw [List.filter_cons, List.filter_cons]
    have hin : i < listed.size := by
      rcases Nat.lt_or_ge i listed.size with h | h
      · exact h
      · rw [Array.getD_eq_getD_getElem?, Array.getElem?_eq_none h] at hl
        simp at hl
    by_cases hj : j = i
    · subst hj
      have e1 : (listed.setIfInBounds j true).getD j true = true := by rw [Array.getD_eq_getD_getElem?]; simp [hin]
      have e2 : List.filter (fun x => !(listed.setIfInBounds j true).getD x true) ins = List.filter (fun x => !listed.getD x true) ins := by
        apply List.filter_congr
        intro x hx
        have hne : j ≠ x := fun e => hnd'.1 (e ▸ hx)
        rw [getD_set_ne true hne]
      rw [e1, e2, hl]
      simp
    · have hi' : i ∈ ins := by
        rcases List.mem_cons.1 hi with e | e
        · exact absurd e.symm hj
        · exact e
      have := ih hnd'.2 hi'
      rw [getD_set_ne true (Ne.symm hj)]
      split
      · simp only [List.length_cons]; omega
      · exact this

def fillOk (md : Region.Mode) (ops : Array Oper) (ins : List Nat) (base : Array Bool) : Bool :=
  (ins.all fun i => match ops[i]? with
    | some o => o.dst.isNone && o.guard.isNone && !base.getD i true && o.after.all (fun e => !Region.binds md e || (base.getD e.on false && !ins.contains e.on))
    | none => false) &&
  ((List.range ops.size).all fun j => base.getD j true || ins.contains j || match ops[j]? with
    | some o => (o.after.any fun e => Region.binds md e && (!ins.contains e.on && !base.getD e.on false)) || ins.all fun i => o.after.any fun e => Region.binds md e && e.on == i
    | none => true)

theorem fill_any (ins : List Nat) (base : Array Bool) (hok : fillOk md ops ins base = true) (hnd : ins.Nodup) (a : Act) (J : List Nat → World → Prop)
    (step : ∀ i ∈ ins, ∀ o, ops[i]? = some o → ∀ ds w, J ds w → i ∉ ds → ∃ w', (execOp a.eval o).run P w = .ok .skip w' ∧ J (ds ++ [i]) w' ∧ S w')
    (fuel : Nat) (fin : ∀ ds w listed, J ds w → (∀ i, i ∈ ds ↔ i ∈ ins) → listed.size = base.size → (∀ j, j ∉ ins → listed.getD j true = base.getD j true) → (∀ i ∈ ins, listed.getD i true = true) → wpAnyH P md ops Q S fuel listed a w) :
    ∀ (n : Nat) (listed : Array Bool) (ds : List Nat) (w : World), (unl ins listed).length = n → listed.size = base.size → (∀ j, j ∉ ins → listed.getD j true = base.getD j true) → (∀ i, i ∈ ds ↔ i ∈ ins ∧ listed.getD i true = true) → J ds w →
      wpAnyH P md ops Q S (fuel + n) listed a w := by
  unfold fillOk at hok
  rw [Bool.and_eq_true, List.all_eq_true, List.all_eq_true] at hok
  obtain ⟨hA, hB⟩ := hok
  intro n
  induction n with
  | zero =>
    intro listed ds w hn hsz hb hds hJ
    have hall : ∀ i ∈ ins, listed.getD i true = true := fun i hi => by
      have h0 : unl ins listed = [] := List.eq_nil_of_length_eq_zero hn
      unfold unl at h0
      rw [List.filter_eq_nil_iff] at h0
      have := h0 i hi
      simpa using this
    exact fin ds w listed hJ (fun i => ⟨fun h => ((hds i).1 h).1, fun h => (hds i).2 ⟨h, hall i h⟩⟩) hsz hb hall
  | succ n ih =>
    intro listed ds w hn hsz hb hds hJ
    show wpAnyH P md ops Q S (fuel + n + 1) listed a w
    obtain ⟨i0, hi0⟩ : ∃ i, i ∈ unl ins listed := by
      cases hu : unl ins listed with
      | nil => rw [hu] at hn; simp at hn
      | cons x xs => exact ⟨x, by simp⟩
    have hi0' : i0 ∈ ins ∧ listed.getD i0 true = false := by
      unfold unl at hi0
      rw [List.mem_filter] at hi0
      exact ⟨hi0.1, by simpa using hi0.2⟩
    -- a listed one is seen so with either default
    have getF : ∀ j, j ∉ ins → base.getD j false = true → listed.getD j false = true := fun j hj hbj => by
      have h1 := hb j hj
      have hlt : j < base.size := by
        rcases Nat.lt_or_ge j base.size with h | h
        · exact h
        · rw [Array.getD_eq_getD_getElem?, Array.getElem?_eq_none h] at hbj
          simp at hbj
      rw [Array.getD_eq_getD_getElem?, Array.getElem?_eq_getElem hlt] at hbj
      rw [Array.getD_eq_getD_getElem?, Array.getD_eq_getD_getElem?, Array.getElem?_eq_getElem hlt, Array.getElem?_eq_getElem (by omega)] at h1
      rw [Array.getD_eq_getD_getElem?, Array.getElem?_eq_getElem (by omega)]
      simp at h1 hbj ⊢
      rw [h1]; exact hbj
    have insReady : ∀ i ∈ ins, listed.getD i true = false → i ∈ Region.ready md ops listed := fun i hi hl => by
      have h1 := hA i hi
      cases ho : ops[i]? with
      | none => rw [ho] at h1; simp at h1
      | some o =>
        rw [ho] at h1
        simp only [Bool.and_eq_true, Array.all_eq_true_iff_forall_mem] at h1
        refine mem_ready.2 ⟨hl, o, ho, fun e he hbe => ?_⟩
        have h2 := h1.2 e he
        rw [hbe] at h2
        simp only [Bool.not_true, Bool.false_or, Bool.and_eq_true] at h2
        exact getF e.on (by simpa using h2.2) h2.1
    refine ⟨fun h => ?_, fun i hi => ?_⟩
    · have := insReady i0 hi0'.1 hi0'.2
      rw [h] at this
      cases this
    · obtain ⟨hl, o, ho, hafter⟩ := mem_ready.1 hi
      by_cases hin : i ∈ ins
      · have h1 := hA i hin
        rw [ho] at h1
        simp only [Bool.and_eq_true] at h1
        have hdst : o.dst = none := by simpa using h1.1.1.1
        have hg : o.guard = none := by simpa using h1.1.1.2
        have hnot : i ∉ ds := fun h => by
          have := ((hds i).1 h).2
          rw [hl] at this
          cases this
        obtain ⟨w', hrun, hJ', hS'⟩ := step i hin o ho ds w hJ hnot
        unfold wpOp
        rw [ho]
        have hw : Region.wanted o (yielded ops a.tmps) = true := by simp [Region.wanted, hg]
        simp only [hw, if_true]
        refine .inl ?_
        unfold Oper.wp
        rw [hrun]
        show _ ∧ _
        have hput : a.put o.dst undef = a := by rw [hdst]; rfl
        rw [hput]
        refine ⟨hS', ih _ (ds ++ [i]) w' ?_ (by simpa using hsz) (fun j hj => ?_) (fun j => ?_) hJ'⟩
        · have := unl_set hnd hin hl
          omega
        · rw [getD_set_ne true (show i ≠ j from fun e => hj (e ▸ hin))]
          exact hb j hj
        · rw [List.mem_append, List.mem_singleton, hds j]
          by_cases hji : i = j
          · subst hji
            have hlt : i < listed.size := by
              rcases Nat.lt_or_ge i listed.size with h | h
              · exact h
              · rw [Array.getD_eq_getD_getElem?, Array.getElem?_eq_none h] at hl
                simp at hl
            have e1 : (listed.setIfInBounds i true).getD i true = true := by rw [Array.getD_eq_getD_getElem?]; simp [hlt]
            exact ⟨fun _ => ⟨hin, e1⟩, fun _ => .inr rfl⟩
          · rw [getD_set_ne true hji]
            exact ⟨fun h => by rcases h with h | h; exact h; exact absurd h.symm hji, fun h => .inl h⟩
      · exfalso
        have hlt : i < ops.size := by
          rcases Nat.lt_or_ge i ops.size with h | h
          · exact h
          · rw [Array.getElem?_eq_none h] at ho; cases ho
        have h1 := hB i (by simpa using hlt)
        rw [ho] at h1
        have hbi : base.getD i true = false := by rw [← hb i hin]; exact hl
        rw [hbi] at h1
        have hc : ins.contains i = false := by simpa using hin
        rw [hc] at h1
        simp only [Bool.false_or, Bool.or_eq_true] at h1
        rcases h1 with h1 | h1
        · rw [Array.any_eq_true'] at h1
          obtain ⟨e, he, hbe⟩ := h1
          simp only [Bool.and_eq_true] at hbe
          have h2 := hafter e he hbe.1
          have h3 : e.on ∉ ins := by simpa using hbe.2.1
          have h4 : base.getD e.on false = false := by simpa using hbe.2.2
          have h5 := hb e.on h3
          rw [Array.getD_eq_getD_getElem?] at h2 h4
          rw [Array.getD_eq_getD_getElem?, Array.getD_eq_getD_getElem?] at h5
          rcases Nat.lt_or_ge e.on base.size with h | h
          · rw [Array.getElem?_eq_getElem h] at h4 h5
            rw [Array.getElem?_eq_getElem (by omega)] at h2 h5
            simp at h2 h4 h5
            rw [h2, h4] at h5
            cases h5
          · rw [Array.getElem?_eq_none (by omega)] at h2
            simp at h2
        · rw [List.all_eq_true] at h1
          have h2 := h1 i0 hi0'.1
          rw [Array.any_eq_true'] at h2
          obtain ⟨e, he, hbe⟩ := h2
          simp only [Bool.and_eq_true, beq_iff_eq] at hbe
          have h3 := hafter e he hbe.1
          rw [hbe.2, Array.getD_eq_getD_getElem?] at h3
          have h4 := hi0'.2
          rw [Array.getD_eq_getD_getElem?] at h4
          cases h5 : listed[i0]? with
          | none => rw [h5] at h3; simp at h3
          | some x => rw [h5] at h3 h4; simp at h3 h4; rw [h3] at h4; cases h4

theorem full_of {listed base full : Array Bool} {ins : List Nat} (hsz : listed.size = base.size) (hb : ∀ j, j ∉ ins → listed.getD j true = base.getD j true) (hall : ∀ i ∈ ins, listed.getD i true = true)
    (hf : full.size = base.size) (h : ((List.range base.size).all fun i => if ins.contains i then full.getD i true else full.getD i true == base.getD i true) = true) : listed = full := by
  rw [List.all_eq_true] at h
  apply Array.ext (by omega)
  intro i h1 h2
  have h3 := h i (by simp; omega)
  have e1 : listed.getD i true = listed[i] := by rw [Array.getD_eq_getD_getElem?, Array.getElem?_eq_getElem h1]; rfl
  have e2 : full.getD i true = full[i] := by rw [Array.getD_eq_getD_getElem?, Array.getElem?_eq_getElem h2]; rfl
  rw [← e1, ← e2]
  by_cases hi : i ∈ ins
  · rw [if_pos (by simpa using hi)] at h3
    rw [hall i hi, h3]
  · rw [if_neg (by simpa using hi)] at h3
    rw [hb i hi]
    exact (beq_iff_eq.1 h3).symm

theorem fill_run (ins : List Nat) (base full : Array Bool) (hok : fillOk md ops ins base = true) (hnd : ins.Nodup) (a : Act) (J : List Nat → World → Prop) (fuel : Nat) (w : World) (hf : full.size = base.size)
    (hfull : ((List.range base.size).all fun i => if ins.contains i then full.getD i true else full.getD i true == base.getD i true) = true) (h0 : J [] w)
    (step : ∀ i ∈ ins, ∀ o, ops[i]? = some o → ∀ ds w, J ds w → i ∉ ds → ∃ w', (execOp a.eval o).run P w = .ok .skip w' ∧ J (ds ++ [i]) w' ∧ S w')
    (fin : ∀ ds w, J ds w → (∀ i, i ∈ ds ↔ i ∈ ins) → wpAnyH P md ops Q S fuel full a w) : wpAnyH P md ops Q S (fuel + ins.length) base a w := by
  have hbase : ∀ i ∈ ins, base.getD i true = false := fun i hi => by
    have h1 := hok
    unfold fillOk at h1
    rw [Bool.and_eq_true, List.all_eq_true] at h1
    have h2 := h1.1 i hi
    cases ho : ops[i]? with
    | none => rw [ho] at h2; simp at h2
    | some o =>
      rw [ho] at h2
      simp only [Bool.and_eq_true] at h2
      simpa using h2.1.2
  refine fill_any ins base hok hnd a J step fuel (fun ds w listed hJ hds hsz hb hall => ?_) ins.length base [] w ?_ rfl (fun _ _ => rfl) (fun i => ⟨fun h => by simp at h, fun h => ?_⟩) h0
  · have e := full_of hsz hb hall hf hfull
    subst e
    exact fin ds w hJ hds
  · unfold unl
    rw [List.filter_eq_self.2 (fun i hi => by rw [hbase i hi]; rfl)]
  · have h1 := hbase i h.1
    rw [h.2] at h1
    cases h1

end
end Go.Proofs.YtphpkalbbmlgoaaGreatDoor

namespace Go.Proofs.YtphpkalbbmlgoaaGreatDoor
open Go.RowKit
set_option linter.unusedSimpArgs false

def Tg (n : Int) : Value := .agg #[.int .i64 n]

def targets : List Int := [24, 23, 21, 19, 18, 14, 13, 12, 10, 8, 7]

def blkN (n : Int) : Int := match n with
  | .ofNat 24 => 12 | .ofNat 23 => 11 | .ofNat 21 => 10 | .ofNat 19 => 9 | .ofNat 18 => 8 | .ofNat 14 => 7 | .ofNat 13 => 6 | .ofNat 12 => 5 | .ofNat 10 => 4 | .ofNat 8 => 3 | .ofNat 7 => 2 | _ => 0

theorem blkN_out (n : Int) (h : n ∉ targets) : blkN n = 0 := by
  unfold blkN
  split <;> first | rfl | exact absurd (by decide) h

def kv (e : MapEntry) : Value × Value := (e.key, e.val)

def kn (n : Int) : Value × Value := (Tg n, .int .i64 (blkN n))

def TMap (w : World) (r : Nat) (ks : List Int) : Prop := ∃ es clock, w.heap[r]? = some (.map es clock) ∧ es.toList.map kv = ks.map kn

theorem tg_equal (a b : Int) (w : World) : (Op.equal 55 (Tg a) (Tg b)).run Tryz.prog w = .ok (a == b) w := by
  have u3 := Tryz.underlying3
  have hS : Tryz.prog.underlying 55 = some (.struct (Tryz.prog.fieldsOf 55)) := by kernel_rfl
  unfold Op.equal Op.maxDepth Tg
  rw [show (10000 : Nat) = 9999 + 1 from rfl, run_equalIn_agg w 9999 55 _ _ hS (by kernel_rfl)]
  simp only [Program.fieldsOf, Tryz.underlying55]
  go_simp
  by_cases h : a = b <;> simp [h]

theorem tg_check (b : Bool) (n : Int) (w : World) : (Instr.checkKey b 10000 55 (Tg n)).run Tryz.prog w = .ok () w := by kernel_rfl

theorem tg_ask (n : Int) (w : World) : ∀ (es : List MapEntry) (ks : List Int) (i : Nat), es.map kv = ks.map kn → ∃ r, (Instr.findAsking 55 (Tg n) es i).run Tryz.prog w = .ok r w ∧ r.isSome = decide (n ∈ ks) ∧ ∀ x, r = some x → x.2 = .int .i64 (blkN n)
  | [], ks, i, h => by
    cases ks with
    | nil => exact ⟨none, rfl, by simp, fun x hx => by cases hx⟩
    | cons k ks => simp at h
  | e :: es, ks, i, h => by
    cases ks with
    | nil => simp at h
    | cons k ks =>
      rw [List.map_cons, List.map_cons] at h
      injection h with h0 h2
      have h1 : e.key = Tg k := congrArg Prod.fst h0
      have h3 : e.val = .int .i64 (blkN k) := congrArg Prod.snd h0
      obtain ⟨r, hr, hi, hv⟩ := tg_ask n w es ks (i + 1) h2
      unfold Instr.findAsking
      rw [Sem.run_bind, h1, tg_equal, Result.andThen_ok]
      by_cases hk : n = k
      · have : (n == k) = true := by simp [hk]
        rw [this]
        exact ⟨_, rfl, by simp [hk], fun x hx => by cases hx; rw [hk]; exact h3⟩
      · have : (n == k) = false := by simpa using hk
        rw [this]
        refine ⟨r, ?_, by rw [hi]; simp [hk], hv⟩
        exact hr

theorem tg_find (n : Int) (w : World) (es : List MapEntry) (ks : List Int) (h : es.map kv = ks.map kn) : ∃ r, (Instr.findKey 55 (Tg n) es).run Tryz.prog w = .ok r w ∧ r.isSome = decide (n ∈ ks) ∧ ∀ x, r = some x → x.2 = .int .i64 (blkN n) := by
  unfold Instr.findKey
  rw [Sem.run_bind, run_underlying Tryz.underlying55, Result.andThen_ok]
  cases es with
  | nil =>
    cases ks with
    | nil => exact ⟨none, rfl, by simp, fun x hx => by cases hx⟩
    | cons k ks => simp at h
  | cons e es =>
    obtain ⟨r, hr, hi, hv⟩ := tg_ask n w (e :: es) ks 0 h
    refine ⟨r, ?_, hi, hv⟩
    have hn : ∀ fs, Instr.findNow (.struct fs) (Tg n) (e :: es) 0 = none := fun fs => rfl
    rw [hn]
    exact hr

theorem tg_insert (n : Int) (w : World) (r : Nat) (ks : List Int) (h : TMap w r ks) (hn : n ∉ ks) : ∃ w', (Instr.mapUpdate 419 (.map (some r)) (Tg n) (.int .i64 (blkN n))).run Tryz.prog w = .ok () w' ∧ TMap w' r (ks ++ [n]) ∧ Touch [r] w w' := by
  obtain ⟨es, clock, hb, hk⟩ := h
  obtain ⟨res, hf, hi, -⟩ := tg_find n w es.toList ks hk
  have hres : res = none := by
    rw [decide_eq_false hn] at hi
    simpa using hi
  subst hres
  refine ⟨{ w with heap := w.heap.setIfInBounds r (.map (es.push { key := Tg n, val := .int .i64 (blkN n), born := clock }) (clock + 1)) }, ?_, ?_, ?_⟩
  · unfold Instr.mapUpdate
    simp only [Sem.run_bind, run_underlying Tryz.underlying419, Result.andThen_ok, MapKept.run_getObj_map hb, tg_check, hf, MapKept.run_setObj_map _ hb]
  · have hlt := (Array.getElem?_eq_some_iff.1 hb).1
    refine ⟨es.push { key := Tg n, val := .int .i64 (blkN n), born := clock }, clock + 1, by simp [hlt], ?_⟩
    rw [Array.toList_push, List.map_append, hk, List.map_append]
    rfl
  · refine ⟨rfl, rfl, rfl, by simp, fun k _ hkr => ?_⟩
    have : k ≠ r := by simpa using hkr
    show (w.heap.setIfInBounds r _)[k]? = _
    rw [Array.getElem?_setIfInBounds_ne (Ne.symm this)]

theorem tg_look (n : Int) (w : World) (r : Nat) (ks : List Int) (h : TMap w r ks) (hks : ∀ n, n ∈ ks ↔ n ∈ targets) : (Instr.lookup 419 (.map (some r)) (Tg n) true).run Tryz.prog w = .ok (.tuple #[.int .i64 (blkN n), .bool (decide (n ∈ ks))]) w := by
  obtain ⟨es, clock, hb, hk⟩ := h
  obtain ⟨res, hf, hi, hx⟩ := tg_find n w es.toList ks hk
  have hz : (zeroValue 3).run Tryz.prog w = .ok (.int .i64 0) w := by kernel_rfl
  unfold Instr.lookup
  simp only [Sem.run_bind, Sem.run_pure, run_underlying Tryz.underlying419, Result.andThen_ok, MapKept.run_getObj_map hb, tg_check, hf]
  cases res with
  | none =>
    have hn : n ∉ targets := fun hc => by rw [Option.isSome_none, decide_eq_true ((hks n).2 hc)] at hi; cases hi
    rw [blkN_out n hn, ← hi]
    simp only [Sem.run_bind, Sem.run_pure, Result.andThen_ok, hz, if_true, Option.isSome_none]
  | some x =>
    rw [← hx x rfl, ← hi]
    simp only [Sem.run_bind, Sem.run_pure, Result.andThen_ok, if_true, Option.isSome_some]

theorem run_insert {P : Program} (ρ : Operand → Value) (o : Oper) (t : TypeId) (m k x : Operand) (h : o.op = .insert t m k x) (W : World) : (execOp ρ o).run P W = ((Instr.mapUpdate t (ρ m) (ρ k) (ρ x)).run P W).andThen fun _ W' => .ok .skip W' := by
  unfold execOp
  rw [h]
  simp only [Sem.run_bind, Sem.run_pure]

def tgB (n : Int) : Bool := decide (n ∈ targets)

def insIx : List Nat := [2, 4, 6, 8, 10, 12, 14, 16, 18, 20, 22]

def keyOf (i : Nat) : Int := targets.getD (i / 2 - 1) 0

theorem keyOf_inj : ∀ i ∈ insIx, ∀ j ∈ insIx, keyOf i = keyOf j → i = j := by decide

theorem keyOf_map : insIx.map keyOf = targets := by decide

theorem keyOf_all {ds : List Nat} (h : ∀ i, i ∈ ds ↔ i ∈ insIx) (n : Int) : n ∈ ds.map keyOf ↔ n ∈ targets := by
  rw [← keyOf_map, List.mem_map, List.mem_map]
  exact ⟨fun ⟨i, hi, e⟩ => ⟨i, (h i).1 hi, e⟩, fun ⟨i, hi, e⟩ => ⟨i, (h i).2 hi, e⟩⟩

set_option maxRecDepth 100000 in
set_option maxHeartbeats 4000000 in
theorem blocks_any (w : World) : Calls Tryz.prog 220 #[] w fun r w' => ∃ m ks, r = .returned (.map (some m)) ∧ TMap w' m ks ∧ (∀ n, n ∈ ks ↔ n ∈ targets) ∧ Touch [] w w' ∧ w.heap.size ≤ m := by
  have hb : ∀ (n : Int) (W : World), (Instr.build 55 #[(0, .int .i64 n)]).run Tryz.prog W = .ok (Tg n) W := fun n W => run_build W 55 _ _ (by kernel_rfl)
  go_enter Tryz.func220, Tryz.ntmps220
  go_wp2_with fail
  refine wp_region_held_drew (S := fun _ => True) (by kernel_rfl) trivial (fun hS => ?_)
  refine wpAnyH_take (i := 1) (v := ?_) rfl (by kernel_rfl) (by kernel_rfl) (by kernel_rfl) (fun _ _ _ h => h) (Or.inl ⟨by rfl, ?_⟩) hS ?_
  rotate_left
  · (intro W hSW; go_simp <;> with_reducible rfl)
  simp only [Act.put, List.setIfInBounds_toArray, List.set_cons_zero, List.set_cons_succ, List.getElem_toArray, List.getElem_cons_succ, List.getElem_cons_zero]
  refine wpAnyH_take (i := 3) (v := ?_) rfl (by kernel_rfl) (by kernel_rfl) (by kernel_rfl) (fun _ _ _ h => h) (Or.inl ⟨by rfl, ?_⟩) hS ?_
  rotate_left
  · (intro W hSW; go_simp <;> with_reducible rfl)
  simp only [Act.put, List.setIfInBounds_toArray, List.set_cons_zero, List.set_cons_succ, List.getElem_toArray, List.getElem_cons_succ, List.getElem_cons_zero]
  refine wpAnyH_take (i := 5) (v := ?_) rfl (by kernel_rfl) (by kernel_rfl) (by kernel_rfl) (fun _ _ _ h => h) (Or.inl ⟨by rfl, ?_⟩) hS ?_
  rotate_left
  · (intro W hSW; go_simp <;> with_reducible rfl)
  simp only [Act.put, List.setIfInBounds_toArray, List.set_cons_zero, List.set_cons_succ, List.getElem_toArray, List.getElem_cons_succ, List.getElem_cons_zero]
  refine wpAnyH_take (i := 7) (v := ?_) rfl (by kernel_rfl) (by kernel_rfl) (by kernel_rfl) (fun _ _ _ h => h) (Or.inl ⟨by rfl, ?_⟩) hS ?_
  rotate_left
  · (intro W hSW; go_simp <;> with_reducible rfl)
  simp only [Act.put, List.setIfInBounds_toArray, List.set_cons_zero, List.set_cons_succ, List.getElem_toArray, List.getElem_cons_succ, List.getElem_cons_zero]
  refine wpAnyH_take (i := 9) (v := ?_) rfl (by kernel_rfl) (by kernel_rfl) (by kernel_rfl) (fun _ _ _ h => h) (Or.inl ⟨by rfl, ?_⟩) hS ?_
  rotate_left
  · (intro W hSW; go_simp <;> with_reducible rfl)
  simp only [Act.put, List.setIfInBounds_toArray, List.set_cons_zero, List.set_cons_succ, List.getElem_toArray, List.getElem_cons_succ, List.getElem_cons_zero]
  refine wpAnyH_take (i := 11) (v := ?_) rfl (by kernel_rfl) (by kernel_rfl) (by kernel_rfl) (fun _ _ _ h => h) (Or.inl ⟨by rfl, ?_⟩) hS ?_
  rotate_left
  · (intro W hSW; go_simp <;> with_reducible rfl)
  simp only [Act.put, List.setIfInBounds_toArray, List.set_cons_zero, List.set_cons_succ, List.getElem_toArray, List.getElem_cons_succ, List.getElem_cons_zero]
  refine wpAnyH_take (i := 13) (v := ?_) rfl (by kernel_rfl) (by kernel_rfl) (by kernel_rfl) (fun _ _ _ h => h) (Or.inl ⟨by rfl, ?_⟩) hS ?_
  rotate_left
  · (intro W hSW; go_simp <;> with_reducible rfl)
  simp only [Act.put, List.setIfInBounds_toArray, List.set_cons_zero, List.set_cons_succ, List.getElem_toArray, List.getElem_cons_succ, List.getElem_cons_zero]
  refine wpAnyH_take (i := 15) (v := ?_) rfl (by kernel_rfl) (by kernel_rfl) (by kernel_rfl) (fun _ _ _ h => h) (Or.inl ⟨by rfl, ?_⟩) hS ?_
  rotate_left
  · (intro W hSW; go_simp <;> with_reducible rfl)
  simp only [Act.put, List.setIfInBounds_toArray, List.set_cons_zero, List.set_cons_succ, List.getElem_toArray, List.getElem_cons_succ, List.getElem_cons_zero]
  refine wpAnyH_take (i := 17) (v := ?_) rfl (by kernel_rfl) (by kernel_rfl) (by kernel_rfl) (fun _ _ _ h => h) (Or.inl ⟨by rfl, ?_⟩) hS ?_
  rotate_left
  · (intro W hSW; go_simp <;> with_reducible rfl)
  simp only [Act.put, List.setIfInBounds_toArray, List.set_cons_zero, List.set_cons_succ, List.getElem_toArray, List.getElem_cons_succ, List.getElem_cons_zero]
  refine wpAnyH_take (i := 19) (v := ?_) rfl (by kernel_rfl) (by kernel_rfl) (by kernel_rfl) (fun _ _ _ h => h) (Or.inl ⟨by rfl, ?_⟩) hS ?_
  rotate_left
  · (intro W hSW; go_simp <;> with_reducible rfl)
  simp only [Act.put, List.setIfInBounds_toArray, List.set_cons_zero, List.set_cons_succ, List.getElem_toArray, List.getElem_cons_succ, List.getElem_cons_zero]
  refine wpAnyH_take (i := 21) (v := ?_) rfl (by kernel_rfl) (by kernel_rfl) (by kernel_rfl) (fun _ _ _ h => h) (Or.inl ⟨by rfl, ?_⟩) hS ?_
  rotate_left
  · (intro W hSW; go_simp <;> with_reducible rfl)
  simp only [Act.put, List.setIfInBounds_toArray, List.set_cons_zero, List.set_cons_succ, List.getElem_toArray, List.getElem_cons_succ, List.getElem_cons_zero]
  refine wpAnyH_ready (rs := [0]) (by kernel_rfl) (by simp) (AllReadyH.cons rfl (fun K hK => ?_) AllReadyH.nil)
  go_simp
  refine hK.out _ _ trivial (fun _ => ?_)
  clear hK K
  try simp only [Act.put, List.setIfInBounds_toArray, List.set_cons_zero, List.set_cons_succ, List.getElem_toArray, List.getElem_cons_succ, List.getElem_cons_zero]
  show wpAnyH _ _ _ _ _ (2 + insIx.length) _ _ _
  refine fill_run insIx _ #[true, true, true, true, true, true, true, true, true, true, true, true, true, true, true, true, true, true, true, true, true, true, true, false, false] (by kernel_rfl) (by decide) _ (fun ds W => TMap W w.heap.size (ds.map keyOf) ∧ Touch [] w W ∧ ∀ j ∈ ds, j ∈ insIx) 2 _ (by kernel_rfl) (by kernel_rfl)
    ⟨⟨#[], 0, heap_alloc_new _ _, rfl⟩, ((Touch.refl [] w).drew).alloc _, by simp⟩ ?_ ?_
  · intro i hi o ho ds W hJ hnot
    obtain ⟨h1, h2, h3⟩ := hJ
    have hk : keyOf i ∉ ds.map keyOf := fun hm => by
      obtain ⟨j, hj, e⟩ := List.mem_map.1 hm
      exact hnot (keyOf_inj j (h3 j hj) i hi e ▸ hj)
    have hI := tg_insert (keyOf i) W _ _ h1 hk
    have key : ∀ ρ : Operand → Value, (execOp ρ o).run Tryz.prog W = ((Instr.mapUpdate 419 (.map (some w.heap.size)) (Tg (keyOf i)) (.int .i64 (blkN (keyOf i)))).run Tryz.prog W).andThen (fun _ W' => .ok .skip W') →
        ∃ w', (execOp ρ o).run Tryz.prog W = .ok .skip w' ∧ (TMap w' w.heap.size ((ds ++ [i]).map keyOf) ∧ Touch [] w w' ∧ ∀ j ∈ ds ++ [i], j ∈ insIx) ∧ True := fun ρ hv => by
      obtain ⟨w', hr, h4, h5⟩ := hI
      refine ⟨w', by rw [hv, hr]; rfl, ⟨?_, h2.step h5 (by simp), fun j hj => ?_⟩, trivial⟩
      · rw [List.map_append]
        exact h4
      · rcases List.mem_append.1 hj with h | h
        · exact h3 j h
        · rw [List.mem_singleton.1 h]
          exact hi
    refine key _ ?_
    clear key hI hk hnot h1 h2 h3
    simp only [insIx, List.mem_cons, List.not_mem_nil, or_false] at hi
    rcases hi with rfl | rfl | rfl | rfl | rfl | rfl | rfl | rfl | rfl | rfl | rfl
    all_goals (obtain rfl := Option.some.inj ho; exact (run_insert _ _ _ _ _ _ (by rfl) W).trans rfl)
  · intro ds W hJ hds
    obtain ⟨h1, h2, -⟩ := hJ
    refine wpAnyH_take (i := 23) (v := ?_) rfl (by kernel_rfl) (by kernel_rfl) (by kernel_rfl) (fun _ _ _ h => h) (Or.inl ⟨by rfl, ?_⟩) hS ?_
    rotate_left
    · (intro W hSW; go_simp <;> with_reducible rfl)
    simp only [Act.put, List.setIfInBounds_toArray, List.set_cons_zero, List.set_cons_succ, List.getElem_toArray, List.getElem_cons_succ, List.getElem_cons_zero]
    refine wpAnyH_take (i := 24) (v := ?_) rfl (by kernel_rfl) (by kernel_rfl) (by kernel_rfl) (fun _ _ _ h => h) (Or.inl ⟨by rfl, ?_⟩) hS ?_
    rotate_left
    · (intro W hSW; go_simp <;> with_reducible rfl)
    simp only [Act.put, List.setIfInBounds_toArray, List.set_cons_zero, List.set_cons_succ, List.getElem_toArray, List.getElem_cons_succ, List.getElem_cons_zero]
    refine wpAnyH_done (by kernel_rfl) ?_ _
    have HA := Lib.hid (keyOf_all hds)
    clear hds
    go_wp2_with fail
    go_ret
    exact ⟨_, _, rfl, h1, HA.out, h2, Nat.le_refl _⟩

theorem tg_look2 (n : Int) (w : World) (r : Nat) (ks : List Int) (h : TMap w r ks) (hk : ∀ n, n ∈ ks ↔ n ∈ targets) : (Instr.lookup 419 (.map (some r)) (.agg #[.int .i64 n]) true).run Tryz.prog w = .ok (.tuple #[.int .i64 (blkN n), .bool (tgB n)]) w := by
  have hv := tg_look n w r ks h hk
  have e : decide (n ∈ ks) = tgB n := decide_eq_decide.2 (hk n)
  rw [e] at hv
  exact hv

set_option maxRecDepth 100000 in
set_option maxHeartbeats 1000000 in
theorem tvalid_any (t : Int) (w : World) : Calls Tryz.prog 117 #[.agg #[.int .i64 t]] w fun r w' => r = .returned (.bool (tgB t)) ∧ Touch [] w w' := by
  have hblk := Blk.new w 55 #[.int .i64 t]
  have HC := Lib.hid (show (w.alloc (.cells #[.int .i64 t] 55)).cell? ⟨w.heap.size, 0, none⟩ = some (.int .i64 t) from hblk.cell 0)
  clear hblk
  go_enter Tryz.func117, Tryz.ntmps117
  go_wp2_with fail
  go_region_held3 (fun W => W.cell? ⟨w.heap.size, 0, none⟩ = some (.int .i64 t)) (first | exact HC.out | exact (ht1.cell (p := ⟨w.heap.size, 0, none⟩) (by simp) (by simp)).trans HC.out) (first | (go_at_call 220; refine (blocks_any _).mono ?_; rintro r w1 ⟨m, ks, rfl, hm, hks, ht, hge⟩; have ht1 : Touch [] (w.alloc (.cells #[.int .i64 t] 55)) w1 := ⟨ht.os, ht.tape, ht.output, ht.size, ht.block⟩; have hl := tg_look2 t w1 m ks hm hks; clear hks hm))
  all_goals
    go_wp2_with fail
    go_ret
    exact ⟨rfl, ((Touch.refl [] w).alloc _).then0 ht1⟩

set_option maxRecDepth 100000 in
set_option maxHeartbeats 1000000 in
theorem tblocks_any (t : Int) (w : World) : Calls Tryz.prog 134 #[.agg #[.int .i64 t]] w fun r w' => r = .returned (.tuple #[.int .i64 (blkN t), .int .i64 (if tgB t = true then 0 else 2)]) ∧ Touch [] w w' := by
  have hblk := Blk.new w 55 #[.int .i64 t]
  have HC := Lib.hid (show (w.alloc (.cells #[.int .i64 t] 55)).cell? ⟨w.heap.size, 0, none⟩ = some (.int .i64 t) from hblk.cell 0)
  clear hblk
  cases hb : tgB t with
  | true =>
    simp only [if_true]
    go_enter Tryz.func134, Tryz.ntmps134
    go_wp2_with fail
    go_region_held3 (fun W => W.cell? ⟨w.heap.size, 0, none⟩ = some (.int .i64 t)) (first | exact HC.out | exact (ht1.cell (p := ⟨w.heap.size, 0, none⟩) (by simp) (by simp)).trans HC.out) (first | (go_at_call 220; refine (blocks_any _).mono ?_; rintro r w1 ⟨m, ks, rfl, hm, hks, ht, hge⟩; have ht1 : Touch [] (w.alloc (.cells #[.int .i64 t] 55)) w1 := ⟨ht.os, ht.tape, ht.output, ht.size, ht.block⟩; have hl := tg_look2 t w1 m ks hm hks; rw [hb] at hl; clear hks hm))
    all_goals
      go_wp2_with fail
      go_ret2
      exact ⟨rfl, ((Touch.refl [] w).alloc _).then0 ht1⟩
  | false =>
    have h0 : blkN t = 0 := blkN_out t (fun hc => by rw [show tgB t = true from decide_eq_true hc] at hb; cases hb)
    rw [h0]
    simp only [Bool.false_eq_true, if_false]
    go_enter Tryz.func134, Tryz.ntmps134
    go_wp2_with fail
    go_region_held3 (fun W => W.cell? ⟨w.heap.size, 0, none⟩ = some (.int .i64 t)) (first | exact HC.out | exact (ht1.cell (p := ⟨w.heap.size, 0, none⟩) (by simp) (by simp)).trans HC.out) (first | (go_at_call 220; refine (blocks_any _).mono ?_; rintro r w1 ⟨m, ks, rfl, hm, hks, ht, hge⟩; have ht1 : Touch [] (w.alloc (.cells #[.int .i64 t] 55)) w1 := ⟨ht.os, ht.tape, ht.output, ht.size, ht.block⟩; have hl := tg_look2 t w1 m ks hm hks; rw [hb, h0] at hl; clear hks hm))
    all_goals
      go_wp2_with fail
      go_ret2
      exact ⟨rfl, ((Touch.refl [] w).alloc _).then0 ht1⟩

end Go.Proofs.YtphpkalbbmlgoaaGreatDoor
