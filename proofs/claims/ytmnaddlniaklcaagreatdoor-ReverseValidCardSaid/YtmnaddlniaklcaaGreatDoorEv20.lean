/- An abstract interpreter of the model's code, twentieth part: scopes, results, marks; what is asked of statements. -/
import Derived.Test.YtmnaddlniaklcaaGreatDoorEv19
import Derived.RangeFuncRecord
import Derived.RangeFuncNested
namespace Go.Proofs.YtmnaddlniaklcaaGreatDoor.Ev
open Go

/-! ### Scopes -/
section scopes
variable {F : Fence} {n : Nat} {P : Program}
theorem stepR_scope {b : Frame} {a : Act} {k : List Item} {cs : List Frame} {w : World} {c : Code} : step P (lone (b.atR a (.code (.scope c) :: k)) cs w) = .next (lone (b.atR a (.code c :: .inScope c :: k)) cs w) :=
  step_lone_go (by simp [stepG, stepG.exec, Frame.atR])
theorem stepR_inScope {b : Frame} {a : Act} {k : List Item} {cs : List Frame} {w : World} {c : Code} : step P (lone (b.atR a (.inScope c :: k)) cs w) = .next (lone (b.atR a k) cs w) :=
  step_lone_go (by simp [stepG, stepG.exec, Frame.atR])

/-- Code inside the scope of a body, with at most so many jumps. -/
def scopeIn (F : Fence) (n : Nat) (P : Program) (body : Code) (Q : Exit → Act → World → Prop) : Nat → Code → Act → World → Prop
  | 0, _, _, _ => False
  | m + 1, rest, a, w => rest.wpIn F n P (fun e a w => match e with
      | .goto l => match findLabel body l with
        | some r => scopeIn F n P body Q m r a w
        | none => Q (.goto l) a w
      | e => Q e a w) a w

theorem wpIn_scope {body : Code} {Q : Exit → Act → World → Prop} {a : Act} {w : World} (m : Nat) (h : scopeIn F n P body Q m body a w) : (Code.scope body).wpIn F n P Q a w := by
  intro b k cs hro hb hr
  have key : ∀ m rest a w, scopeIn F n P body Q m rest a w → ∃ e a' w', Q e a' w' ∧ ArrivesIn (Machine.fenced P F) P (lone (b.atR a (.code rest :: .inScope body :: k)) cs w) b k cs e a' w' := by
    intro m
    induction m with
    | zero => intro rest a w h; exact h.elim
    | succ m ih =>
      intro rest a w h
      obtain ⟨e, a1, w1, hq, harr⟩ := h b (.inScope body :: k) cs hro hb hr
      cases e with
      | normal => exact ⟨.normal, a1, w1, hq, StepsIn.trans harr (.one (fenced_calm (fr := b.atR a1 (.inScope body :: k)) hb hr rfl) stepR_inScope)⟩
      | exit id => exact ⟨.exit id, a1, w1, hq, fun k' hk => harr.1 k' (by simpa [exitTo] using hk), fun h1 h2 => harr.2 h1 (by simpa [exitTo] using h2)⟩
      | goto l =>
        cases hf : findLabel body l with
        | none =>
          simp only [hf] at hq
          exact ⟨.goto l, a1, w1, hq, fun k' hk => harr.1 k' (by simpa [gotoIn, hf] using hk), fun h1 h2 => harr.2 h1 (by simpa [gotoIn, hf] using h2)⟩
        | some r =>
          simp only [hf] at hq
          obtain ⟨e2, a2, w2, hq2, harr2⟩ := ih r a1 w1 hq
          exact ⟨e2, a2, w2, hq2, .of_steps (harr.1 _ (by simp [gotoIn, hf])) harr2⟩
      | ret => exact ⟨.ret, a1, w1, hq, harr⟩
      | panic ch => exact ⟨.panic ch, a1, w1, hq, harr⟩
      | outgrown => exact ⟨.outgrown, a1, w1, hq, harr⟩
  obtain ⟨e, a', w', hq, harr⟩ := key m body a w h
  exact ⟨e, a', w', hq, .of_steps (.one (fenced_calm (fr := b.atR a (.code (.scope body) :: k)) hb hr rfl) stepR_scope) harr⟩
end scopes

/-! ### A block is lost -/
theorem dm_drop (H : Tr AObj) (b nx : Nat) : Dm H.get (H.put none b).get nx nx :=
  ⟨Nat.le_refl _, fun k hk => by
    by_cases e : k = b
    · subst e; rw [Tr.get_put_same] at hk; exact absurd rfl hk
    · rw [Tr.get_put_other _ _ e] at hk; exact .inl hk⟩

theorem Stp.lose {η : Env} {h : Hp} {w w' : World} {H : Tr AObj} {nx : Nat} (p : Pre η h w H.get nx nx) {b : Nat} {B : Nat × Nat} {o : AObj} (hb : H.get b = some o) (hB : η.blk b = some B)
    (hrest : ∀ k, k ≠ B.1 → w'.heap[k]? = w.heap[k]?) (hos : w'.os = w.os) (htape : w'.tape = w.tape) (hout : w'.output = w.output) (hsize : w.heap.size ≤ w'.heap.size) :
    Stp η h w H.get (H.put none b).get nx nx η w' := by
  have hhb := p.ext b o hb
  have hov : ovr h H.get (H.put none b).get nx nx = fun k => if k = b then none else h k := by
    funext k
    by_cases e : k = b
    · subst e; rw [ovr_in (.inl (by rw [hb]; simp)), Tr.get_put_same]; simp
    · by_cases hk : H.get k ≠ none
      · rw [ovr_in (.inl hk), Tr.get_put_other _ _ e]; simp only [e, if_false]
        cases ho : H.get k with
        | none => exact absurd ho hk
        | some o2 => exact (p.ext k o2 ho).symm
      · rw [ovr_out (by intro hc; rcases hc with hc | hc; exact hk hc; omega)]; simp [e]
  have himg : ∀ k, (if k = b then none else h k) ≠ none → k ≠ b ∧ h k ≠ none := fun k hk => by
    by_cases e : k = b
    · simp [e] at hk
    · exact ⟨e, by simpa only [e, if_false] using hk⟩
  refine ⟨.refl η, fun _ _ => ⟨rfl, rfl, rfl⟩, ?_, ?_, ⟨hos, htape, hout, hsize, fun k _ hn => hrest k (fun e => hn ⟨b, B, by rw [hhb]; simp, hB, e.symm⟩)⟩⟩
  · rw [hov]
    refine ⟨fun k o2 hk => ?_, fun k k' K K' hk hk' hK hK' e => p.rh.inj k k' K K' (himg k hk).2 (himg k' hk').2 hK hK' e⟩
    obtain ⟨e, hk2⟩ := himg k (by rw [hk]; simp)
    simp only [e, if_false] at hk
    obtain ⟨K, co2, h1, h2, h3⟩ := p.rh.live k o2 hk
    exact ⟨K, co2, h1, by rw [hrest _ (fun e2 => e (p.rh.inj k b K B hk2 (by rw [hhb]; simp) h1 hB e2))]; exact h2, h3⟩
  · rw [hov]
    rintro k ⟨j, J, hj, hJ, rfl⟩
    exact .inl ⟨j, J, (himg j hj).2, hJ, rfl⟩

/-! ### Results -/
def resSem (A : Array Value) : ResultVar → Sem Value
  | .tmp t => pure (A.getD t Go.undef)
  | .cell a t => do loadVar t (← asAddr (A.getD a Go.undef))
theorem results_eq (fn : Func) (A : Array Value) : results fn A = (do
    let vs ← fn.results.mapM (resSem A)
    pure (if h : vs.size = 1 then vs[0] else .tuple vs)) := by
  unfold results
  congr 1
theorem resC_ok {P : Program} {tm : Tr V} {H : Tr AObj} {r : ResultVar} {g : Bool} {l : List At} (h : resC P tm H r = some (g, l)) {η : Env} {hp : Hp} {w : World} {A : Array Value} (ext : ∀ b o, H.get b = some o → hp b = some o) (rh : RH η hp w) (ra : RA η tm A) :
    ∃ cv, comp η g l = some cv ∧ (resSem A r).run P w = .ok cv w := by
  cases r with
  | tmp t =>
    simp only [resC] at h
    split at h
    · rename_i g' l' hv
      cases h
      exact ⟨_, ra t _ hv, by simp [resSem]⟩
    · cases h
  | cell a t =>
    simp only [resC] at h
    split at h
    · rename_i q hv
      split at h
      · rename_i g' l' hl
        cases h
        have hq := one_conc.1 (ra a _ hv)
        obtain ⟨cv, h1, h2⟩ := evLoad_ok hl ext rh hq
        refine ⟨cv, h1, ?_⟩
        cases q <;> simp only [evLoad] at hl <;> try (cases hl; done)
        obtain ⟨B, hB, he⟩ := conc_ptr hq
        simp only [resSem]
        rw [he] at h2 ⊢
        simp only [Instr.loadAt, Instr.sureAddr, Sem.run_bind, Sem.run_pure, Result.andThen_ok] at h2
        simp only [Sem.run_bind, asAddr, Sem.run_pure, Result.andThen_ok, h2]
      · cases h
    · cases h

theorem resCs_ok {P : Program} {tm : Tr V} {H : Tr AObj} {η : Env} {hp : Hp} {w : World} {A : Array Value} (ext : ∀ b o, H.get b = some o → hp b = some o) (rh : RH η hp w) (ra : RA η tm A) : ∀ (l : List ResultVar) (cs : List (Bool × List At)), resCs P tm H l = some cs →
    ∃ vs, comps η cs = some vs ∧ (l.mapM (resSem A)).run P w = .ok vs w := by
  intro l
  induction l with
  | nil => intro cs h; simp [resCs] at h; subst h; exact ⟨[], rfl, by simp⟩
  | cons r l ih =>
    intro cs h
    simp only [resCs] at h
    cases hc : resC P tm H r with
    | none => simp [hc] at h
    | some c => cases hl : resCs P tm H l with
      | none => simp [hc, hl] at h
      | some cs' =>
        obtain ⟨g, m⟩ := c
        simp [hc, hl] at h; subst h
        obtain ⟨cv, h1, h2⟩ := resC_ok hc ext rh ra
        obtain ⟨vs, h3, h4⟩ := ih cs' hl
        refine ⟨cv :: vs, by simp [comps, h1, h3], ?_⟩
        rw [List.mapM_cons]
        simp only [Sem.run_bind, h2, Result.andThen_ok, h4, Sem.run_pure]

theorem results_ok {P : Program} {tm : Tr V} {H : Tr AObj} {fn : Func} {cs : List (Bool × List At)} (h : resCs P tm H fn.results.toList = some cs) {η : Env} {hp : Hp} {w : World} {A : Array Value} (ext : ∀ b o, H.get b = some o → hp b = some o) (rh : RH η hp w) (ra : RA η tm A) :
    ∃ cv, (resV cs).conc η = some cv ∧ (results fn A).run P w = .ok cv w := by
  obtain ⟨vs, h1, h2⟩ := resCs_ok ext rh ra _ _ h
  have hm : (results fn A).run P w = .ok (if h : (⟨vs⟩ : Array Value).size = 1 then (⟨vs⟩ : Array Value)[0] else .tuple ⟨vs⟩) w := by
    rw [results_eq, Array.mapM_eq_mapM_toList]
    simp only [map_eq_pure_bind, bind_assoc, pure_bind, Sem.run_bind, h2, Result.andThen_ok, Sem.run_pure]
  refine ⟨_, ?_, hm⟩
  match cs, h1 with
  | [], h1 => simp [comps] at h1; subst h1; rfl
  | [(g, l)], h1 =>
    simp only [comps] at h1
    cases hc : comp η g l with
    | none => simp [hc] at h1
    | some v => simp [hc] at h1; subst h1; simp [resV, V.conc, hc]
  | a :: b :: r, h1 =>
    have hlen : 1 < vs.length := by
      obtain ⟨g, l⟩ := a
      obtain ⟨g', l'⟩ := b
      simp only [comps] at h1
      cases hc : comp η g l with
      | none => simp [hc] at h1
      | some v => cases hc' : comp η g' l' with
        | none => simp [hc, hc'] at h1
        | some v' => cases hr : comps η r with
          | none => simp [hc, hc', hr] at h1
          | some vs' => simp [hc, hc', hr] at h1; subst h1; simp
    have hne : ¬ ((⟨vs⟩ : Array Value).size = 1) := by show ¬ (vs.length = 1); omega
    rw [dif_neg hne]
    simp only [resV, V.conc, h1]

end Go.Proofs.YtmnaddlniaklcaaGreatDoor.Ev
