/- An abstract interpreter of the model's code, eighteenth part: a region that draws its order: the interpreter's answer is right. -/
import Derived.Test.YtmnaddlniaklcaaGreatDoorEv17
namespace Go.Proofs.YtmnaddlniaklcaaGreatDoor.Ev
open Go

abbrev Stt := Tr V × Tr AObj × Nat

/-- What has changed between two states. -/
def Mb (a b : Stt) (k : Nat) : Prop := b.2.1.get k ≠ a.2.1.get k ∨ (a.2.2 ≤ k ∧ k < b.2.2)

/-- One operation of the region between two states. -/
structure Sok (P : Program) (ops : Array Oper) (nt : Nat) (o : Oper) (s : Sp) (a b : Stt) : Prop where
  put : putA nt a.1 o.dst s.v = some b.1
  done : (evGuard ops o (restrT a.1 (o.looksAt ops)) = some true ∧ OpOk P o (restrT a.1 (o.looksAt ops)) s.G a.2.2 s.v s.G' b.2.2) ∨
    (evGuard ops o (restrT a.1 (o.looksAt ops)) = some false ∧ s.v = V.undef ∧ s.G = .nil ∧ s.G' = .nil ∧ a.2 = b.2)
  sub : ∀ k ob, s.G.get k = some ob → a.2.1.get k = some ob
  m1 : ∀ k, (s.G.get k ≠ none ∨ (a.2.2 ≤ k ∧ k < b.2.2)) → b.2.1.get k = s.G'.get k
  m2 : ∀ k, ¬ (s.G.get k ≠ none ∨ (a.2.2 ≤ k ∧ k < b.2.2)) → b.2.1.get k = a.2.1.get k
  nx : s.nx = a.2.2
  le : a.2.2 ≤ b.2.2
  small : s.big = false → (∀ k, s.G.get k ≠ none → k ∈ s.see) ∧ (∀ k, Mb a b k → k ∈ s.mods)

theorem evD1_ok {P : Program} (hN : NoNum P) {F : Fns} (hF : OpsOk P F) {ops : Array Oper} {nt : Nat} {A : List Nat} {i : Nat} {rs : List Sp} {o : Oper} {tm tm' : Tr V} {H : Tr AObj} {nx : Nat} {v : V} {s : Sp}
    (hg : evGuard ops o (restrT tm (o.looksAt ops)) = some true) (he : evD1 F P A i rs o (restrT tm (o.looksAt ops)) H nx = some (v, s)) (hp : putA nt tm o.dst v = some tm') :
    s.idx = i ∧ Sok P ops nt o s (tm, H, nx) (tm', s.H', s.nx') := by
  unfold evD1 at he
  split at he
  · split at he
    · rename_i hlt
      split at he
      · rename_i v' H1 nx' hb
        cases he
        have hok := opOk_big hN hF hb
        have hms := allLt_ok hlt
        refine ⟨rfl, hp, .inl ⟨hg, hok⟩, ?_, ?_, ?_, rfl, hok.1.le, fun h => by cases h⟩
        · intro k ob hk
          simp only [get_dropL] at hk
          split at hk
          · cases hk
          · exact hk
        · intro k hk
          simp only [get_mergeL, get_dropL] at hk ⊢
          rw [if_neg]
          intro hc
          rcases hk with hk | hk
          · rw [if_pos hc] at hk; exact hk rfl
          · have := hms k hc; omega
        · intro k hk
          simp only [get_mergeL, get_dropL] at hk ⊢
          split
          · rfl
          · rename_i hc
            rw [if_neg hc] at hk
            have e1 : H.get k = none := Classical.byContradiction fun h => hk (.inl h)
            rw [e1]
            refine Classical.byContradiction fun h => hk ?_
            have := hok.1.dom k h
            simp only [get_dropL, if_neg hc] at this
            exact this
      · cases he
    · cases he
  · split at he
    · rename_i v' hr
      cases he
      have hok : OpOk P o (restrT tm (o.looksAt ops)) (restr H (needs P o (restrT tm (o.looksAt ops)))) nx v (restr H (needs P o (restrT tm (o.looksAt ops)))) nx := opOk_small (by unfold evS; rw [hr])
      refine ⟨rfl, hp, .inl ⟨hg, hok⟩, ?_, ?_, fun k _ => rfl, rfl, Nat.le_refl _, fun _ => ⟨?_, ?_⟩⟩
      · intro k ob hk
        simp only [get_restr] at hk
        split at hk
        · exact hk
        · cases hk
      · intro k hk
        simp only [get_restr] at hk ⊢
        rcases hk with hk | hk
        · split at hk
          · rw [if_pos (by assumption)]
          · exact absurd rfl hk
        · omega
      · intro k hk
        simp only [get_restr] at hk
        split at hk
        · assumption
        · exact absurd rfl hk
      · rintro k (hk | hk)
        · exact absurd rfl hk
        · simp only at hk; omega
    · rename_i hr
      split at he
      · rename_i v' G' nx' hw
        cases he
        have hok : OpOk P o (restrT tm (o.looksAt ops)) (restr H (needs P o (restrT tm (o.looksAt ops)))) nx v G' nx' := opOk_small (by unfold evS; rw [hr]; exact hw)
        have hle := hok.1.le
        have hsub : ∀ k ob, (restr H (needs P o (restrT tm (o.looksAt ops)))).get k = some ob → H.get k = some ob := by
          intro k ob hk
          simp only [get_restr] at hk
          split at hk
          · exact hk
          · cases hk
        refine ⟨rfl, hp, .inl ⟨hg, hok⟩, hsub, ?_, ?_, rfl, hle, fun _ => ⟨?_, ?_⟩⟩
        · intro k hk
          simp only [get_mergeL, List.mem_append, mem_rng]
          by_cases hc : k ∈ changed (restr H (needs P o (restrT tm (o.looksAt ops)))) G' (needs P o (restrT tm (o.looksAt ops))) ∨ nx ≤ k ∧ k < nx + (nx' - nx)
          · rw [if_pos hc]
          · rw [if_neg hc]
            rcases hk with hk | hk
            · have hin : k ∈ needs P o (restrT tm (o.looksAt ops)) := by
                simp only [get_restr] at hk
                split at hk
                · assumption
                · exact absurd rfl hk
              have := mem_changed hin (fun h => hc (.inl h))
              rw [← this, get_restr, if_pos hin]
            · exact absurd (.inr ⟨hk.1, by simp only at hk; omega⟩) hc
        · intro k hk
          simp only [get_mergeL, List.mem_append, mem_rng]
          by_cases hc : k ∈ changed (restr H (needs P o (restrT tm (o.looksAt ops)))) G' (needs P o (restrT tm (o.looksAt ops))) ∨ nx ≤ k ∧ k < nx + (nx' - nx)
          · rw [if_pos hc]
            rcases hc with hc | hc
            · have hin := changed_sub hc
              have e1 : (restr H (needs P o (restrT tm (o.looksAt ops)))).get k = none := Classical.byContradiction fun h => hk (.inl h)
              have e2 : G'.get k = none := Classical.byContradiction fun h => hk (hok.1.dom k h)
              rw [get_restr, if_pos hin] at e1
              rw [e1, e2]
            · exact absurd (.inr ⟨hc.1, by simp only; omega⟩) hk
          · rw [if_neg hc]
        · intro k hk
          simp only [get_restr] at hk
          split at hk
          · assumption
          · exact absurd rfl hk
        · rintro k (hk | hk)
          · simp only [get_mergeL, List.mem_append, mem_rng] at hk ⊢
            refine Classical.byContradiction fun hc => ?_
            rw [if_neg hc] at hk
            exact hk rfl
          · simp only [List.mem_append, mem_rng]
            exact .inr ⟨hk.1, by simp only at hk; omega⟩
      · cases he

/-- The whole row of operations. -/
theorem evD_ok {P : Program} (hN : NoNum P) {F : Fns} (hF : OpsOk P F) {ops : Array Oper} {nt : Nat} {A : List Nat} : ∀ (l : List Oper) (i : Nat) (rs : List Sp) (tm : Tr V) (H : Tr AObj) (nx : Nat) (tm' : Tr V) (H' : Tr AObj) (nx' : Nat) (ss : List Sp),
    evD F P ops nt A i l rs tm H nx = some (tm', H', nx', ss) →
    ∃ st : Nat → Stt, st 0 = (tm, H, nx) ∧ st l.length = (tm', H', nx') ∧ ∀ k o, l[k]? = some o → ∃ s, ss[k]? = some s ∧ s.idx = i + k ∧ Sok P ops nt o s (st k) (st (k + 1)) := by
  intro l
  induction l with
  | nil =>
    intro i rs tm H nx tm' H' nx' ss he
    simp only [evD] at he
    cases he
    exact ⟨fun _ => (tm, H, nx), rfl, rfl, fun k o hk => by simp at hk⟩
  | cons o l ih =>
    intro i rs tm H nx tm' H' nx' ss he
    simp only [evD] at he
    split at he
    · rename_i hg
      split at he
      · rename_i v s h1
        split at he
        · rename_i tm1 hp
          split at he
          · rename_i tm2 H2 nx2 ss' h2
            cases he
            obtain ⟨hidx, hok⟩ := evD1_ok hN hF hg h1 hp
            obtain ⟨st, e0, e1, hst⟩ := ih _ _ _ _ _ _ _ _ _ h2
            refine ⟨fun k => match k with | 0 => (tm, H, nx) | k + 1 => st k, rfl, e1, fun k o' hk => ?_⟩
            cases k with
            | zero =>
              simp at hk; subst hk
              refine ⟨s, rfl, hidx, ?_⟩
              show Sok P ops nt o s (tm, H, nx) (st 0)
              rw [e0]; exact hok
            | succ k =>
              obtain ⟨s', h3, h4, h5⟩ := hst k o' (by simpa using hk)
              exact ⟨s', by simpa using h3, by omega, h5⟩
          · cases he
        · cases he
      · cases he
    · rename_i hg
      split at he
      · rename_i tm1 hp
        split at he
        · rename_i tm2 H2 nx2 ss' h2
          cases he
          obtain ⟨st, e0, e1, hst⟩ := ih _ _ _ _ _ _ _ _ _ h2
          refine ⟨fun k => match k with | 0 => (tm, H, nx) | k + 1 => st k, rfl, e1, fun k o' hk => ?_⟩
          cases k with
          | zero =>
            simp at hk; subst hk
            refine ⟨_, rfl, rfl, ?_⟩
            show Sok P ops nt o _ (tm, H, nx) (st 0)
            rw [e0]
            refine ⟨hp, .inr ⟨hg, rfl, rfl, rfl, rfl⟩, fun k ob hk => by simp [Tr.get_nil] at hk, fun k hk => ?_, fun k _ => rfl, rfl, Nat.le_refl _, fun _ => ⟨fun k hk => by simp [Tr.get_nil] at hk, ?_⟩⟩
            · rcases hk with hk | hk
              · simp [Tr.get_nil] at hk
              · simp only at hk; omega
            · rintro k (hk | hk)
              · exact absurd rfl hk
              · simp only at hk; omega
          | succ k =>
            obtain ⟨s', h3, h4, h5⟩ := hst k o' (by simpa using hk)
            exact ⟨s', by simpa using h3, by omega, h5⟩
        · cases he
      · cases he
    · cases he

theorem pairsB_ok {A : List Nat} {r : Sp} : ∀ {l : List Sp}, pairsB A r l = true → ∀ s ∈ l, bitA A s.idx r.idx = true ∨ pairB r s = true
  | [], _, s, hs => by cases hs
  | x :: l, h, s, hs => by
    simp only [pairsB] at h
    split at h
    · rename_i hx
      rw [Bool.or_eq_true] at hx
      rcases List.mem_cons.1 hs with rfl | hs
      · exact hx
      · exact pairsB_ok h s hs
    · cases h
theorem chkAll_ok {A : List Nat} : ∀ {l : List Sp}, chkAll A l = true → ∀ (j k : Nat) (r s : Sp), j < k → l[j]? = some r → l[k]? = some s → bitA A s.idx r.idx = true ∨ pairB r s = true
  | [], _, j, k, r, s, _, hr, _ => by simp at hr
  | x :: l, h, j, k, r, s, hjk, hr, hs => by
    simp only [chkAll] at h
    split at h
    · rename_i hx
      cases k with
      | zero => omega
      | succ k =>
        cases j with
        | zero => simp at hr; subst hr; exact pairsB_ok hx s (List.mem_of_getElem? (by simpa using hs))
        | succ j => exact chkAll_ok h j k r s (by omega) (by simpa using hr) (by simpa using hs)
    · cases h

/-- Two operations that may come in either order do not disturb one another. -/
theorem pair_ok {P : Program} {ops : Array Oper} {nt : Nat} {o o' : Oper} {r s : Sp} {a b c d : Stt} (hr : Sok P ops nt o r a b) (hs : Sok P ops nt o' s c d) (h : pairB r s = true) :
    (∀ k, Mb a b k → s.G.get k = none) ∧ (∀ k, Mb c d k → r.G.get k = none) := by
  have key : ∀ {o o' : Oper} {r s : Sp} {a b c d : Stt}, Sok P ops nt o r a b → Sok P ops nt o' s c d → r.big = false → noneAt s.G r.mods = true → keptAt s r.see = true →
      (∀ k, Mb a b k → s.G.get k = none) ∧ (∀ k, Mb c d k → r.G.get k = none) := by
    intro o o' r s a b c d hr hs hb h1 h2
    obtain ⟨g1, g2⟩ := hr.small hb
    refine ⟨fun k hk => noneAt_ok h1 k (g2 k hk), fun k hk => ?_⟩
    refine Classical.byContradiction fun hc => ?_
    obtain ⟨k1, k2⟩ := keptAt_ok h2 k (g1 k hc)
    rw [hs.nx] at k1
    rcases hk with hk | hk
    · apply hk
      by_cases hG : s.G.get k ≠ none ∨ (c.2.2 ≤ k ∧ k < d.2.2)
      · rw [hs.m1 k hG]
        rcases k2 with k2 | k2
        · rcases hG with hG | hG
          · exact absurd k2 hG
          · omega
        · rcases hG with hG | hG
          · cases hGk : s.G.get k with
            | none => exact absurd hGk hG
            | some ob => rw [← k2, hGk]; exact (hs.sub k ob hGk).symm
          · omega
      · exact hs.m2 k hG
    · omega
  unfold pairB at h
  split at h
  · rename_i h1 h2
    rw [Bool.and_eq_true] at h
    obtain ⟨a1, a2⟩ := hr.small h1
    obtain ⟨b1, b2⟩ := hs.small h2
    exact ⟨fun k hk => Classical.byContradiction fun hc => disj_ok h.1 k (a2 k hk) (b1 k hc), fun k hk => Classical.byContradiction fun hc => disj_ok h.2 k (b2 k hk) (a1 k hc)⟩
  · rename_i h1 h2
    rw [Bool.and_eq_true] at h
    exact key hr hs h1 h.1 h.2
  · rename_i h1 h2
    rw [Bool.and_eq_true] at h
    obtain ⟨x, y⟩ := key hs hr h2 h.1 h.2
    exact ⟨y, x⟩
  · cases h

/-! ### Temporaries -/
theorem writers_ok {A : List Nat} {i : Nat} {t : Tmp} : ∀ {l : List Oper} {j0 : Nat}, writers A i t j0 l = true → ∀ k o, l[k]? = some o → o.dst = some t → i = j0 + k ∨ bitA A i (j0 + k) = true ∨ bitA A (j0 + k) i = true
  | [], _, _, k, o, hk, _ => by simp at hk
  | x :: l, j0, h, k, o, hk, hd => by
    simp only [writers] at h
    have tail : writers A i t (j0 + 1) l = true → ∀ k', k = k' + 1 → i = j0 + k ∨ bitA A i (j0 + k) = true ∨ bitA A (j0 + k) i = true := by
      intro h' k' e
      subst e
      have := writers_ok h' k' o (by simpa using hk) hd
      rwa [show j0 + 1 + k' = j0 + (k' + 1) by omega] at this
    split at h
    · rename_i d hxd
      split at h
      · rename_i hdt
        split at h
        · rename_i hor
          cases k with
          | zero =>
            rw [Bool.or_eq_true, Bool.or_eq_true] at hor
            rcases hor with (hor | hor) | hor
            · exact .inl (Nat.eq_of_beq_eq_true hor)
            · exact .inr (.inl hor)
            · exact .inr (.inr hor)
          | succ k => exact tail h k rfl
        · cases h
      · rename_i hdt
        cases k with
        | zero => simp at hk; subst hk; rw [hxd] at hd; cases hd; simp at hdt
        | succ k => exact tail h k rfl
    · rename_i hxd
      cases k with
      | zero => simp at hk; subst hk; rw [hxd] at hd; cases hd
      | succ k => exact tail h k rfl
theorem tmpsOk1_ok {ops : Array Oper} {A : List Nat} {i : Nat} : ∀ {l : List Tmp}, tmpsOk1 ops A i l = true → ∀ t ∈ l, writers A i t 0 ops.toList = true
  | [], _, t, ht => by cases ht
  | x :: l, h, t, ht => by
    simp only [tmpsOk1] at h
    split at h
    · rename_i hx
      rcases List.mem_cons.1 ht with rfl | ht
      · exact hx
      · exact tmpsOk1_ok h t ht
    · cases h
theorem tmpsOk_ok {ops : Array Oper} {A : List Nat} : ∀ {l : List Oper} {i : Nat}, tmpsOk ops A i l = true → ∀ k o, l[k]? = some o → ∀ t ∈ namesOf ops o, writers A (i + k) t 0 ops.toList = true
  | [], _, _, k, o, hk, _, _ => by simp at hk
  | x :: l, i, h, k, o, hk, t, ht => by
    simp only [tmpsOk] at h
    split at h
    · rename_i hx
      cases k with
      | zero => simp at hk; subst hk; exact tmpsOk1_ok hx t ht
      | succ k =>
        have := tmpsOk_ok h k o (by simpa using hk) t ht
        rwa [show i + 1 + k = i + (k + 1) by omega] at this
    · cases h

end Go.Proofs.YtmnaddlniaklcaaGreatDoor.Ev
