/- A region that fills a map of its own, in whatever order. No program in sight. -/
import Derived.Test.YtphpkalbbmlgoaaGreatDoorHand
namespace Go.Proofs.YtphpkalbbmlgoaaGreatDoor
open Go.RowKit

section
variable {P : Program} {ops : Array Oper} {Q : Exit → Act → World → Prop} {md : Region.Mode} {S : World → Prop}

def unl (ins : List Nat) (listed : Array Bool) : List Nat := ins.filter fun i => !listed.getD i true

theorem unl_set {ins : List Nat} {listed : Array Bool} {i : Nat} (hnd : ins.Nodup) (hi : i ∈ ins) (hl : listed.getD i true = false) : (unl ins (listed.setIfInBounds i true)).length + 1 = (unl ins listed).length := by
  induction ins with
  | nil => simp at hi
  | cons j ins ih =>
    have hnd' := List.nodup_cons.1 hnd
    unfold unl at ih ⊢
    rw [List.filter_cons, List.filter_cons]
    have hin : i < listed.size := by
      rcases Nat.lt_or_ge i listed.size with h | h
      · exact h
      · rw [Array.getD_eq_getD_getElem?, Array.getElem?_eq_none h] at hl
        simp at hl
    by_cases hj : j = i
    · subst hj
      have e1 : (listed.setIfInBounds j true).getD j true = true := by rw [Array.getD_eq_getD_getElem?]; simp [hin]
      have e2 : List.filter (fun x => !(listed.setIfInBounds j true).getD x true) ins = List.filter (fun x => !listed.getD x true) ins := by
        apply List.filter_congr
        intro x hx
        have hne : j ≠ x := fun e => hnd'.1 (e ▸ hx)
        rw [getD_set_ne true hne]
      rw [e1, e2, hl]
      simp
    · have hi' : i ∈ ins := by
        rcases List.mem_cons.1 hi with e | e
        · exact absurd e.symm hj
        · exact e
      have := ih hnd'.2 hi'
      rw [getD_set_ne true (Ne.symm hj)]
      split
      · simp only [List.length_cons]; omega
      · exact this

def fillOk (md : Region.Mode) (ops : Array Oper) (ins : List Nat) (base : Array Bool) : Bool :=
  (ins.all fun i => match ops[i]? with
    | some o => o.dst.isNone && o.guard.isNone && !base.getD i true && o.after.all (fun e => !Region.binds md e || (base.getD e.on false && !ins.contains e.on))
    | none => false) &&
  ((List.range ops.size).all fun j => base.getD j true || ins.contains j || match ops[j]? with
    | some o => (o.after.any fun e => Region.binds md e && (!ins.contains e.on && !base.getD e.on false)) || ins.all fun i => o.after.any fun e => Region.binds md e && e.on == i
    | none => true)

theorem fill_any (ins : List Nat) (base : Array Bool) (hok : fillOk md ops ins base = true) (hnd : ins.Nodup) (a : Act) (J : List Nat → World → Prop)
    (step : ∀ i ∈ ins, ∀ o, ops[i]? = some o → ∀ ds w, J ds w → i ∉ ds → ∃ w', (execOp a.eval o).run P w = .ok .skip w' ∧ J (ds ++ [i]) w' ∧ S w')
    (fuel : Nat) (fin : ∀ ds w listed, J ds w → (∀ i, i ∈ ds ↔ i ∈ ins) → listed.size = base.size → (∀ j, j ∉ ins → listed.getD j true = base.getD j true) → (∀ i ∈ ins, listed.getD i true = true) → wpAnyH P md ops Q S fuel listed a w) :
    ∀ (n : Nat) (listed : Array Bool) (ds : List Nat) (w : World), (unl ins listed).length = n → listed.size = base.size → (∀ j, j ∉ ins → listed.getD j true = base.getD j true) → (∀ i, i ∈ ds ↔ i ∈ ins ∧ listed.getD i true = true) → J ds w →
      wpAnyH P md ops Q S (fuel + n) listed a w := by
  unfold fillOk at hok
  rw [Bool.and_eq_true, List.all_eq_true, List.all_eq_true] at hok
  obtain ⟨hA, hB⟩ := hok
  intro n
  induction n with
  | zero =>
    intro listed ds w hn hsz hb hds hJ
    have hall : ∀ i ∈ ins, listed.getD i true = true := fun i hi => by
      have h0 : unl ins listed = [] := List.eq_nil_of_length_eq_zero hn
      unfold unl at h0
      rw [List.filter_eq_nil_iff] at h0
      have := h0 i hi
      simpa using this
    exact fin ds w listed hJ (fun i => ⟨fun h => ((hds i).1 h).1, fun h => (hds i).2 ⟨h, hall i h⟩⟩) hsz hb hall
  | succ n ih =>
    intro listed ds w hn hsz hb hds hJ
    show wpAnyH P md ops Q S (fuel + n + 1) listed a w
    obtain ⟨i0, hi0⟩ : ∃ i, i ∈ unl ins listed := by
      cases hu : unl ins listed with
      | nil => rw [hu] at hn; simp at hn
      | cons x xs => exact ⟨x, by simp⟩
    have hi0' : i0 ∈ ins ∧ listed.getD i0 true = false := by
      unfold unl at hi0
      rw [List.mem_filter] at hi0
      exact ⟨hi0.1, by simpa using hi0.2⟩
    -- a listed one is seen so with either default
    have getF : ∀ j, j ∉ ins → base.getD j false = true → listed.getD j false = true := fun j hj hbj => by
      have h1 := hb j hj
      have hlt : j < base.size := by
        rcases Nat.lt_or_ge j base.size with h | h
        · exact h
        · rw [Array.getD_eq_getD_getElem?, Array.getElem?_eq_none h] at hbj
          simp at hbj
      rw [Array.getD_eq_getD_getElem?, Array.getElem?_eq_getElem hlt] at hbj
      rw [Array.getD_eq_getD_getElem?, Array.getD_eq_getD_getElem?, Array.getElem?_eq_getElem hlt, Array.getElem?_eq_getElem (by omega)] at h1
      rw [Array.getD_eq_getD_getElem?, Array.getElem?_eq_getElem (by omega)]
      simp at h1 hbj ⊢
      rw [h1]; exact hbj
    have insReady : ∀ i ∈ ins, listed.getD i true = false → i ∈ Region.ready md ops listed := fun i hi hl => by
      have h1 := hA i hi
      cases ho : ops[i]? with
      | none => rw [ho] at h1; simp at h1
      | some o =>
        rw [ho] at h1
        simp only [Bool.and_eq_true, Array.all_eq_true_iff_forall_mem] at h1
        refine mem_ready.2 ⟨hl, o, ho, fun e he hbe => ?_⟩
        have h2 := h1.2 e he
        rw [hbe] at h2
        simp only [Bool.not_true, Bool.false_or, Bool.and_eq_true] at h2
        exact getF e.on (by simpa using h2.2) h2.1
    refine ⟨fun h => ?_, fun i hi => ?_⟩
    · have := insReady i0 hi0'.1 hi0'.2
      rw [h] at this
      cases this
    · obtain ⟨hl, o, ho, hafter⟩ := mem_ready.1 hi
      by_cases hin : i ∈ ins
      · have h1 := hA i hin
        rw [ho] at h1
        simp only [Bool.and_eq_true] at h1
        have hdst : o.dst = none := by simpa using h1.1.1.1
        have hg : o.guard = none := by simpa using h1.1.1.2
        have hnot : i ∉ ds := fun h => by
          have := ((hds i).1 h).2
          rw [hl] at this
          cases this
        obtain ⟨w', hrun, hJ', hS'⟩ := step i hin o ho ds w hJ hnot
        unfold wpOp
        rw [ho]
        have hw : Region.wanted o (yielded ops a.tmps) = true := by simp [Region.wanted, hg]
        simp only [hw, if_true]
        refine .inl ?_
        unfold Oper.wp
        rw [hrun]
        show _ ∧ _
        have hput : a.put o.dst undef = a := by rw [hdst]; rfl
        rw [hput]
        refine ⟨hS', ih _ (ds ++ [i]) w' ?_ (by simpa using hsz) (fun j hj => ?_) (fun j => ?_) hJ'⟩
        · have := unl_set hnd hin hl
          omega
        · rw [getD_set_ne true (show i ≠ j from fun e => hj (e ▸ hin))]
          exact hb j hj
        · rw [List.mem_append, List.mem_singleton, hds j]
          by_cases hji : i = j
          · subst hji
            have hlt : i < listed.size := by
              rcases Nat.lt_or_ge i listed.size with h | h
              · exact h
              · rw [Array.getD_eq_getD_getElem?, Array.getElem?_eq_none h] at hl
                simp at hl
            have e1 : (listed.setIfInBounds i true).getD i true = true := by rw [Array.getD_eq_getD_getElem?]; simp [hlt]
            exact ⟨fun _ => ⟨hin, e1⟩, fun _ => .inr rfl⟩
          · rw [getD_set_ne true hji]
            exact ⟨fun h => by rcases h with h | h; exact h; exact absurd h.symm hji, fun h => .inl h⟩
      · exfalso
        have hlt : i < ops.size := by
          rcases Nat.lt_or_ge i ops.size with h | h
          · exact h
          · rw [Array.getElem?_eq_none h] at ho; cases ho
        have h1 := hB i (by simpa using hlt)
        rw [ho] at h1
        have hbi : base.getD i true = false := by rw [← hb i hin]; exact hl
        rw [hbi] at h1
        have hc : ins.contains i = false := by simpa using hin
        rw [hc] at h1
        simp only [Bool.false_or, Bool.or_eq_true] at h1
        rcases h1 with h1 | h1
        · rw [Array.any_eq_true'] at h1
          obtain ⟨e, he, hbe⟩ := h1
          simp only [Bool.and_eq_true] at hbe
          have h2 := hafter e he hbe.1
          have h3 : e.on ∉ ins := by simpa using hbe.2.1
          have h4 : base.getD e.on false = false := by simpa using hbe.2.2
          have h5 := hb e.on h3
          rw [Array.getD_eq_getD_getElem?] at h2 h4
          rw [Array.getD_eq_getD_getElem?, Array.getD_eq_getD_getElem?] at h5
          rcases Nat.lt_or_ge e.on base.size with h | h
          · rw [Array.getElem?_eq_getElem h] at h4 h5
            rw [Array.getElem?_eq_getElem (by omega)] at h2 h5
            simp at h2 h4 h5
            rw [h2, h4] at h5
            cases h5
          · rw [Array.getElem?_eq_none (by omega)] at h2
            simp at h2
        · rw [List.all_eq_true] at h1
          have h2 := h1 i0 hi0'.1
          rw [Array.any_eq_true'] at h2
          obtain ⟨e, he, hbe⟩ := h2
          simp only [Bool.and_eq_true, beq_iff_eq] at hbe
          have h3 := hafter e he hbe.1
          rw [hbe.2, Array.getD_eq_getD_getElem?] at h3
          have h4 := hi0'.2
          rw [Array.getD_eq_getD_getElem?] at h4
          cases h5 : listed[i0]? with
          | none => rw [h5] at h3; simp at h3
          | some x => rw [h5] at h3 h4; simp at h3 h4; rw [h3] at h4; cases h4

theorem full_of {listed base full : Array Bool} {ins : List Nat} (hsz : listed.size = base.size) (hb : ∀ j, j ∉ ins → listed.getD j true = base.getD j true) (hall : ∀ i ∈ ins, listed.getD i true = true)
    (hf : full.size = base.size) (h : ((List.range base.size).all fun i => if ins.contains i then full.getD i true else full.getD i true == base.getD i true) = true) : listed = full := by
  rw [List.all_eq_true] at h
  apply Array.ext (by omega)
  intro i h1 h2
  have h3 := h i (by simp; omega)
  have e1 : listed.getD i true = listed[i] := by rw [Array.getD_eq_getD_getElem?, Array.getElem?_eq_getElem h1]; rfl
  have e2 : full.getD i true = full[i] := by rw [Array.getD_eq_getD_getElem?, Array.getElem?_eq_getElem h2]; rfl
  rw [← e1, ← e2]
  by_cases hi : i ∈ ins
  · rw [if_pos (by simpa using hi)] at h3
    rw [hall i hi, h3]
  · rw [if_neg (by simpa using hi)] at h3
    rw [hb i hi]
    exact (beq_iff_eq.1 h3).symm

theorem fill_run (ins : List Nat) (base full : Array Bool) (hok : fillOk md ops ins base = true) (hnd : ins.Nodup) (a : Act) (J : List Nat → World → Prop) (fuel : Nat) (w : World) (hf : full.size = base.size)
    (hfull : ((List.range base.size).all fun i => if ins.contains i then full.getD i true else full.getD i true == base.getD i true) = true) (h0 : J [] w)
    (step : ∀ i ∈ ins, ∀ o, ops[i]? = some o → ∀ ds w, J ds w → i ∉ ds → ∃ w', (execOp a.eval o).run P w = .ok .skip w' ∧ J (ds ++ [i]) w' ∧ S w')
    (fin : ∀ ds w, J ds w → (∀ i, i ∈ ds ↔ i ∈ ins) → wpAnyH P md ops Q S fuel full a w) : wpAnyH P md ops Q S (fuel + ins.length) base a w := by
  have hbase : ∀ i ∈ ins, base.getD i true = false := fun i hi => by
    have h1 := hok
    unfold fillOk at h1
    rw [Bool.and_eq_true, List.all_eq_true] at h1
    have h2 := h1.1 i hi
    cases ho : ops[i]? with
    | none => rw [ho] at h2; simp at h2
    | some o =>
      rw [ho] at h2
      simp only [Bool.and_eq_true] at h2
      simpa using h2.1.2
  refine fill_any ins base hok hnd a J step fuel (fun ds w listed hJ hds hsz hb hall => ?_) ins.length base [] w ?_ rfl (fun _ _ => rfl) (fun i => ⟨fun h => by simp at h, fun h => ?_⟩) h0
  · have e := full_of hsz hb hall hf hfull
    subst e
    exact fin ds w hJ hds
  · unfold unl
    rw [List.filter_eq_self.2 (fun i hi => by rw [hbase i hi]; rfl)]
  · have h1 := hbase i h.1
    rw [h.2] at h1
    cases h1

end
end Go.Proofs.YtphpkalbbmlgoaaGreatDoor
