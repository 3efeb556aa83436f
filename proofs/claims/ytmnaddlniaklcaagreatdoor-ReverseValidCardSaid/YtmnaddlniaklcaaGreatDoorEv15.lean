/- An abstract interpreter of the model's code, fifteenth part: the operations that write are right; guards. -/
import Derived.Test.YtmnaddlniaklcaaGreatDoorEv14
import Derived.TacticsIn
namespace Go.Proofs.YtmnaddlniaklcaaGreatDoor.Ev
open Go

/-- An empty slice gets a name. -/
theorem Stp.emp {η : Env} {h : Hp} {w : World} {H : Tr AObj} {nx : Nat} (p : Pre η h w H.get nx (nx + 1)) (a : Addr) (c : Nat) :
    Stp η h w H.get H.get nx (nx + 1) ⟨η.blk, η.cap, η.unk, fun k => if k = nx then some (a, c) else η.em k⟩ w := by
  obtain ⟨hnb, _, hem⟩ := p.fresh nx (Nat.le_refl _) (by omega)
  have hle : η.le ⟨η.blk, η.cap, η.unk, fun k => if k = nx then some (a, c) else η.em k⟩ :=
    ⟨fun _ _ h => ⟨h, rfl⟩, fun _ _ h => h, fun i v hi => by
      have : i ≠ nx := fun e => by rw [e, hem] at hi; cases hi
      simp [this, hi]⟩
  have hnone : h nx = none := p.rh.fresh hnb
  have hov : ovr h H.get H.get nx (nx + 1) = h := by
    funext b
    by_cases hb : H.get b ≠ none ∨ (nx ≤ b ∧ b < nx + 1)
    · rw [ovr_in hb]
      cases ho : H.get b with
      | some o => exact (p.ext b o ho).symm
      | none =>
        rcases hb with hb | hb
        · exact absurd ho hb
        · obtain rfl : b = nx := by omega
          exact hnone.symm
    · rw [ovr_out hb]
  refine ⟨hle, fun b hb => ⟨rfl, rfl, ?_⟩, ?_, ?_, .refl _ _ _⟩
  · have : b ≠ nx := by omega
    simp [this]
  · rw [hov]; exact ⟨fun b o hb => by obtain ⟨B, co, h1, h2, h3⟩ := p.rh.live b o hb; exact ⟨B, co, h1, h2, h3.mono hle h1⟩, p.rh.inj⟩
  · rw [hov]; intro k hk; exact .inl hk

theorem evEmp_ok {P : Program} {H : Tr AObj} {nx : Nat} {t : TypeId} {x : At} {lo hi mx : Option At} {v : V} {H' : Tr AObj} {nx' : Nat} (he : evEmp P H nx t x lo hi mx = some (v, H', nx')) :
    Dm H.get H'.get nx nx' ∧ ∀ {η : Env} {h : Hp} {w : World} {cx : Value} {clo chi cmx : Option Value}, Pre η h w H.get nx nx' → x.conc η = some cx → optC η lo clo → optC η hi chi → optC η mx cmx →
      ∃ cv η', (Instr.sliceAt t cx clo chi cmx).run P w = .ok cv w ∧ v.conc η' = some cv ∧ Stp η h w H.get H'.get nx nx' η' w := by
  unfold evEmp at he
  split at he
  · rename_i e hu
    split at he
    · rename_i i b o n e' hi'
      split at he
      · rename_i k hk
        split at he
        · cases he
        · split at he
          · rename_i l h0 m hb
            split at he
            · rename_i hlh
              cases he
              refine ⟨⟨by omega, fun b hb => .inl hb⟩, fun p hx h1 h2 h3 => ?_⟩
              rename_i η h w cx clo chi cmx
              obtain ⟨hle, hs⟩ := known_ok p.ext p.rh hk
              obtain ⟨B, hB, rfl⟩ := conc_slx hx
              obtain ⟨hb', hm⟩ := bnds_more hb hle
              obtain rfl : l = h0 := Nat.eq_of_beq_eq_true hlh
              refine ⟨.slice (some (if η.cap b - e' = l then adr B o else adr B (o + l * i.size))) 0 (η.cap b - e' - l), _, ?_, ?_, Stp.emp p (if η.cap b - e' = l then adr B o else adr B (o + l * i.size)) (η.cap b - e' - l)⟩
              · simp only [Instr.sliceAt, Sem.run_bind, run_und hu, Result.andThen_ok, Instr.slice, bnds_ok h1 h2 h3 hb', run_size hi', Sem.run_pure, Option.map_some, adr_add]
                by_cases e : η.cap b - e' = l <;> simp [e]
              · rw [one_conc]; simp [At.conc]
            · cases he
          · cases he
      · cases he
    · cases he
  · cases he

theorem run_u {P : Program} {s : Sem Unit} {w w' : World} (h : s.run P w = .ok () w') : (do s; pure Next.skip : Sem Next).run P w = .ok .skip w' := by
  simp [h]

theorem map_one {α β : Type} (f : α → β) (l : Array α) {x : α} (h : l.toList = [x]) : l.map f = #[f x] := by apply Array.ext'; simp [h]
theorem map_two {α β : Type} (f : α → β) (l : Array α) {x y : α} (h : l.toList = [x, y]) : l.map f = #[f x, f y] := by apply Array.ext'; simp [h]
theorem arr_one {α : Type} (l : Array α) {x : α} (h : l.toList = [x]) : l = #[x] := by apply Array.ext'; simp [h]
theorem arr_two {α : Type} (l : Array α) {x y : α} (h : l.toList = [x, y]) : l = #[x, y] := by apply Array.ext'; simp [h]

theorem evW_ok {P : Program} {o : Oper} {tm : Tr V} {H : Tr AObj} {nx : Nat} {v : V} {H' : Tr AObj} {nx' : Nat} (he : evW P o tm H nx = some (v, H', nx')) : Writes1 P o tm H nx v H' nx' := by
  obtain ⟨dst, op, type, pos, after, guard⟩ := o
  cases op <;> simp only [evW] at he <;> try (cases he; done)
  case alloc t =>
    obtain ⟨d, h1⟩ := evAlloc_ok he
    refine ⟨d, fun η h w A p ra hg => ?_⟩
    obtain ⟨cv, w', η', h2, h3, h4⟩ := h1 p
    exact ⟨cv, w', η', .inl (run_v h2), h3, h4⟩
  case box t x =>
    split at he
    · rename_i u hx
      obtain ⟨d, h1⟩ := evBox_ok (P := P) he
      refine ⟨d, fun η h w A p ra hg => ?_⟩
      obtain ⟨cv, w', η', h2, h3, h4⟩ := h1 p (evO_ok ra hg hx)
      exact ⟨cv, w', η', .inl (run_v h2), h3, h4⟩
    · cases he
  case buildSlice t len ps =>
    split at he
    · rename_i l hl
      obtain ⟨d, h1⟩ := evBuildSlice_ok he
      refine ⟨d, fun η h w A p ra hg => ?_⟩
      have hp' := evParts_ok ra hg _ _ hl
      obtain ⟨cv, w', η', h2, h3, h4⟩ := h1 (cps := ps.map fun (i, x) => (i, A.eval x)) p (by simpa using hp')
      exact ⟨cv, w', η', .inl (run_v h2), h3, h4⟩
    · cases he
  case insert t m k x =>
    split at he
    · rename_i a u y hm hk hx
      obtain ⟨rfl, d, h1⟩ := evMapUpdate_ok he
      refine ⟨d, fun η h w A p ra hg => ?_⟩
      obtain ⟨w', h2, h4⟩ := h1 p (evO_one ra hg hm) (evO_ok ra hg hk) (evO_ok ra hg hx)
      exact ⟨Go.undef, w', η, .inr ⟨run_u h2, rfl⟩, rfl, h4⟩
    · cases he
  case store t a x =>
    split at he
    · rename_i q y ha hx
      obtain ⟨rfl, d, h1⟩ := evStore_ok he
      refine ⟨d, fun η h w A p ra hg => ?_⟩
      obtain ⟨w', h2, h4⟩ := h1 p (evO_one ra hg ha) (evO_ok ra hg hx)
      exact ⟨Go.undef, w', η, .inr ⟨run_u h2, rfl⟩, rfl, h4⟩
    · cases he
  case makeMap t r =>
    split at he
    · rename_i a ha
      obtain ⟨d, h1⟩ := evMakeMap_ok he
      refine ⟨d, fun η h w A p ra hg => ?_⟩
      obtain ⟨cv, w', η', h2, h3, h4⟩ := h1 p (evOpt_ok ra hg ha)
      exact ⟨cv, w', η', .inl (run_v h2), h3, h4⟩
    · cases he
  case makeSlice t l c =>
    split at he
    · rename_i a b ha hb
      obtain ⟨d, h1⟩ := evMakeSlice_ok he
      refine ⟨d, fun η h w A p ra hg => ?_⟩
      obtain ⟨cv, w', η', h2, h3, h4⟩ := h1 p (evO_one ra hg ha) (evO_one ra hg hb)
      exact ⟨cv, w', η', .inl (run_v h2), h3, h4⟩
    · cases he
  case slice t x lo hi mx =>
    split at he
    · rename_i a hx
      split at he
      · rename_i l h' m h1 h2 h3
        obtain ⟨d, g⟩ := evEmp_ok he
        refine ⟨d, fun η h w A p ra hg => ?_⟩
        obtain ⟨cv, η', g2, g3, g4⟩ := g p (evO_one ra hg hx) (evOpt_ok ra hg h1) (evOpt_ok ra hg h2) (evOpt_ok ra hg h3)
        exact ⟨cv, w, η', .inl (run_v g2), g3, g4⟩
      · cases he
    · cases he
  case mapUpdate t m k x =>
    split at he
    · rename_i a u y hm hk hx
      obtain ⟨rfl, d, h1⟩ := evMapUpdate_ok he
      refine ⟨d, fun η h w A p ra hg => ?_⟩
      obtain ⟨w', h2, h4⟩ := h1 p (evO_one ra hg hm) (evO_ok ra hg hk) (evO_ok ra hg hx)
      exact ⟨Go.undef, w', η, .inr ⟨run_u h2, rfl⟩, rfl, h4⟩
    · cases he
  case range t x =>
    split at he
    · rename_i a ha
      obtain ⟨d, h1⟩ := evRange_ok he
      refine ⟨d, fun η h w A p ra hg => ?_⟩
      obtain ⟨cv, w', η', h2, h3, h4⟩ := h1 p (evO_one ra hg ha)
      exact ⟨cv, w', η', .inl (run_v h2), h3, h4⟩
    · cases he
  case call c =>
    obtain ⟨callee, args, ts⟩ := c
    simp only at he
    cases callee <;> (try simp only at he) <;> try (cases he; done)
    rename_i b
    cases b <;> (try simp only at he) <;> try (cases he; done)
    case append =>
      split at he
      · rename_i s x t tx hargs hts
        split at he
        · rename_i a b ha hb
          obtain ⟨d, h1⟩ := evAppend_ok he
          refine ⟨d, fun η h w A p ra hg => ?_⟩
          obtain ⟨cv, w', η', h2, h3, h4⟩ := h1 type p (evO_one ra hg ha) (evO_one ra hg hb)
          refine ⟨cv, w', η', .inl ?_, h3, h4⟩
          rw [run_builtin]
          simp [builtin, map_two _ _ hargs, arr_two _ hts, h2]
        · cases he
      · cases he
    case clear =>
      split at he
      · rename_i s t hargs hts
        split at he
        · rename_i a ha
          obtain ⟨d, h1⟩ := evClear_ok he
          refine ⟨d, fun η h w A p ra hg => ?_⟩
          obtain ⟨cv, w', h2, h3, h4⟩ := h1 type p (evO_one ra hg ha)
          refine ⟨cv, w', η, .inl ?_, h3, h4⟩
          rw [run_builtin]
          simp [builtin, map_one _ _ hargs, arr_one _ hts, h2]
        · cases he
      · cases he
    case copy =>
      split at he
      · rename_i s x t tx hargs hts
        split at he
        · rename_i a b ha hb
          obtain ⟨d, h1⟩ := evCopy_ok he
          refine ⟨d, fun η h w A p ra hg => ?_⟩
          obtain ⟨cv, w', h2, h3, h4⟩ := h1 type p (evO_one ra hg ha) (evO_one ra hg hb)
          refine ⟨cv, w', η, .inl ?_, h3, h4⟩
          rw [run_builtin]
          simp [builtin, map_two _ _ hargs, arr_two _ hts, h2]
        · cases he
      · cases he

theorem evS_ok {P : Program} {o : Oper} {tm : Tr V} {H : Tr AObj} {nx : Nat} {v : V} {H' : Tr AObj} {nx' : Nat} (he : evS P o tm H nx = some (v, H', nx')) : Writes1 P o tm H nx v H' nx' := by
  unfold evS at he
  split at he
  · rename_i u hr
    cases he
    refine ⟨Dm.refl _ _, fun η h w A p ra hg => ?_⟩
    obtain ⟨cv, h1, h2⟩ := evR_ok hr η h w A p.ext p.rh ra hg
    exact ⟨cv, w, η, .inl h2, h1, Stp.refl p.ext p.rh⟩
  · exact evW_ok he

/-! ### Guards -/
theorem evGuard_ok {ops : Array Oper} {o : Oper} {tm : Tr V} {r : Bool} (h : evGuard ops o tm = some r) {η : Env} {A : Array Value} (ra : RA η tm A) : Region.wanted o (yielded ops A) = r := by
  unfold evGuard at h
  unfold Region.wanted
  split at h
  · rename_i hg; cases h; simp [hg]
  · rename_i j want hg
    simp only [hg]
    unfold yielded
    split at h
    · rename_i oj hj
      split at h
      · rename_i d hd
        simp only [hj, Option.bind_some, hd]
        split at h
        · rename_i b hb
          have hra := ra d _ hb
          simp [V.conc, comp, concs, At.conc] at hra
          cases hA : A[d]? with
          | none => simp [hA, Go.undef] at hra
          | some u => simp [hA] at hra; subst hra; cases h; cases b <;> cases want <;> rfl
        · rename_i l hb
          have hra := ra d _ hb
          simp only [V.conc] at hra
          split at hra
          · cases hA : A[d]? with
            | none => cases h; simp
            | some u => simp [Array.getD_eq_getD_getElem?, hA] at hra; subst hra; cases h; simp
          · cases hra
        · cases h
      · rename_i hd; cases h; simp [hj, hd]
    · rename_i hj; cases h; simp [hj]

end Go.Proofs.YtmnaddlniaklcaaGreatDoor.Ev
