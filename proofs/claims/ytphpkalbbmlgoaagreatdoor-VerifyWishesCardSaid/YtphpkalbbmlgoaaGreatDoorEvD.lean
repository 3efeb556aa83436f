/- An abstract interpreter of the model's code, twentieth part: scopes, results, marks; what is asked of statements. -/
import Derived.Test.YtphpkalbbmlgoaaGreatDoorEvC
import Derived.RangeFuncRecord
import Derived.RangeFuncNested
import Derived.IntWalk
namespace Go.Proofs.YtphpkalbbmlgoaaGreatDoor.Ev
open Go

section scopes
variable {F : Fence} {n : Nat} {P : Program}
theorem stepR_scope {b : Frame} {a : Act} {k : List Item} {cs : List Frame} {w : World} {c : Code} : step P (lone (b.atR a (.code (.scope c) :: k)) cs w) = .next (lone (b.atR a (.code c :: .inScope c :: k)) cs w) :=
  step_lone_go (by simp [stepG, stepG.exec, Frame.atR])

theorem stepR_inScope {b : Frame} {a : Act} {k : List Item} {cs : List Frame} {w : World} {c : Code} : step P (lone (b.atR a (.inScope c :: k)) cs w) = .next (lone (b.atR a k) cs w) :=
  step_lone_go (by simp [stepG, stepG.exec, Frame.atR])

def scopeIn (F : Fence) (n : Nat) (P : Program) (body : Code) (Q : Exit → Act → World → Prop) : Nat → Code → Act → World → Prop
  | 0, _, _, _ => False
  | m + 1, rest, a, w => rest.wpIn F n P (fun e a w => match e with
      | .goto l => match findLabel body l with
        | some r => scopeIn F n P body Q m r a w
        | none => Q (.goto l) a w
      | e => Q e a w) a w

theorem wpIn_scope {body : Code} {Q : Exit → Act → World → Prop} {a : Act} {w : World} (m : Nat) (h : scopeIn F n P body Q m body a w) : (Code.scope body).wpIn F n P Q a w := by
  intro b k cs hro hb hr
  have key : ∀ m rest a w, scopeIn F n P body Q m rest a w → ∃ e a' w', Q e a' w' ∧ ArrivesIn (Machine.fenced P F) P (lone (b.atR a (.code rest :: .inScope body :: k)) cs w) b k cs e a' w' := by
    intro m
    induction m with
    | zero => intro rest a w h; exact h.elim
    | succ m ih =>
      intro rest a w h
      obtain ⟨e, a1, w1, hq, harr⟩ := h b (.inScope body :: k) cs hro hb hr
      cases e with
      | normal => exact ⟨.normal, a1, w1, hq, StepsIn.trans harr (.one (fenced_calm (fr := b.atR a1 (.inScope body :: k)) hb hr rfl) stepR_inScope)⟩
      | exit id => exact ⟨.exit id, a1, w1, hq, fun k' hk => harr.1 k' (by simpa [exitTo] using hk), fun h1 h2 => harr.2 h1 (by simpa [exitTo] using h2)⟩
      | goto l =>
        cases hf : findLabel body l with
        | none =>
          simp only [hf] at hq
          exact ⟨.goto l, a1, w1, hq, fun k' hk => harr.1 k' (by simpa [gotoIn, hf] using hk), fun h1 h2 => harr.2 h1 (by simpa [gotoIn, hf] using h2)⟩
        | some r =>
          simp only [hf] at hq
          obtain ⟨e2, a2, w2, hq2, harr2⟩ := ih r a1 w1 hq
          exact ⟨e2, a2, w2, hq2, .of_steps (harr.1 _ (by simp [gotoIn, hf])) harr2⟩
      | ret => exact ⟨.ret, a1, w1, hq, harr⟩
      | panic ch => exact ⟨.panic ch, a1, w1, hq, harr⟩
      | outgrown => exact ⟨.outgrown, a1, w1, hq, harr⟩
  obtain ⟨e, a', w', hq, harr⟩ := key m body a w h
  exact ⟨e, a', w', hq, .of_steps (.one (fenced_calm (fr := b.atR a (.code (.scope body) :: k)) hb hr rfl) stepR_scope) harr⟩

end scopes

theorem dm_drop (H : Tr AObj) (b nx : Nat) : Dm H.get (H.put none b).get nx nx :=
  ⟨Nat.le_refl _, fun k hk => by
    by_cases e : k = b
    · subst e; rw [Tr.get_put_same] at hk; exact absurd rfl hk
    · rw [Tr.get_put_other _ _ e] at hk; exact .inl hk⟩

theorem Stp.lose {η : Env} {h : Hp} {w w' : World} {H : Tr AObj} {nx : Nat} (p : Pre η h w H.get nx nx) {b : Nat} {B : Nat × Nat} {o : AObj} (hb : H.get b = some o) (hB : η.blk b = some B)
    (hrest : ∀ k, k ≠ B.1 → w'.heap[k]? = w.heap[k]?) (hos : w'.os = w.os) (htape : w'.tape = w.tape) (hout : w'.output = w.output) (hsize : w.heap.size ≤ w'.heap.size) :
    Stp η h w H.get (H.put none b).get nx nx η w' := by
  have hhb := p.ext b o hb
  have hov : ovr h H.get (H.put none b).get nx nx = fun k => if k = b then none else h k := by
    funext k
    by_cases e : k = b
    · subst e; rw [ovr_in (.inl (by rw [hb]; simp)), Tr.get_put_same]; simp
    · by_cases hk : H.get k ≠ none
      · rw [ovr_in (.inl hk), Tr.get_put_other _ _ e]; simp only [e, if_false]
        cases ho : H.get k with
        | none => exact absurd ho hk
        | some o2 => exact (p.ext k o2 ho).symm
      · rw [ovr_out (by intro hc; rcases hc with hc | hc; exact hk hc; omega)]; simp [e]
  have himg : ∀ k, (if k = b then none else h k) ≠ none → k ≠ b ∧ h k ≠ none := fun k hk => by
    by_cases e : k = b
    · simp [e] at hk
    · exact ⟨e, by simpa only [e, if_false] using hk⟩
  refine ⟨.refl η, fun _ _ => ⟨rfl, rfl, rfl⟩, ?_, ?_, ⟨hos, htape, hout, hsize, fun k _ hn => hrest k (fun e => hn ⟨b, B, by rw [hhb]; simp, hB, e.symm⟩)⟩⟩
  · rw [hov]
    refine ⟨fun k o2 hk => ?_, fun k k' K K' hk hk' hK hK' e => p.rh.inj k k' K K' (himg k hk).2 (himg k' hk').2 hK hK' e⟩
    obtain ⟨e, hk2⟩ := himg k (by rw [hk]; simp)
    simp only [e, if_false] at hk
    obtain ⟨K, co2, h1, h2, h3⟩ := p.rh.live k o2 hk
    exact ⟨K, co2, h1, by rw [hrest _ (fun e2 => e (p.rh.inj k b K B hk2 (by rw [hhb]; simp) h1 hB e2))]; exact h2, h3⟩
  · rw [hov]
    rintro k ⟨j, J, hj, hJ, rfl⟩
    exact .inl ⟨j, J, (himg j hj).2, hJ, rfl⟩

def resSem (A : Array Value) : ResultVar → Sem Value
  | .tmp t => pure (A.getD t Go.undef)
  | .cell a t => do loadVar t (← asAddr (A.getD a Go.undef))

theorem results_eq (fn : Func) (A : Array Value) : results fn A = (do
    let vs ← fn.results.mapM (resSem A)
    pure (if h : vs.size = 1 then vs[0] else .tuple vs)) := by
  unfold results
  congr 1

theorem resC_ok {P : Program} {tm : Tr V} {H : Tr AObj} {r : ResultVar} {g : Bool} {l : List At} (h : resC P tm H r = some (g, l)) {η : Env} {hp : Hp} {w : World} {A : Array Value} (ext : ∀ b o, H.get b = some o → hp b = some o) (rh : RH η hp w) (ra : RA η tm A) :
    ∃ cv, comp η g l = some cv ∧ (resSem A r).run P w = .ok cv w := by
  cases r with
  | tmp t =>
    simp only [resC] at h
    split at h
    · rename_i g' l' hv
      cases h
      exact ⟨_, ra t _ hv, by simp [resSem]⟩
    · cases h
  | cell a t =>
    simp only [resC] at h
    split at h
    · rename_i q hv
      split at h
      · rename_i g' l' hl
        cases h
        have hq := one_conc.1 (ra a _ hv)
        obtain ⟨cv, h1, h2⟩ := evLoad_ok hl ext rh hq
        refine ⟨cv, h1, ?_⟩
        cases q <;> simp only [evLoad] at hl <;> try (cases hl; done)
        obtain ⟨B, hB, he⟩ := conc_ptr hq
        simp only [resSem]
        rw [he] at h2 ⊢
        simp only [Instr.loadAt, Instr.sureAddr, Sem.run_bind, Sem.run_pure, Result.andThen_ok] at h2
        simp only [Sem.run_bind, asAddr, Sem.run_pure, Result.andThen_ok, h2]
      · cases h
    · cases h

theorem resCs_ok {P : Program} {tm : Tr V} {H : Tr AObj} {η : Env} {hp : Hp} {w : World} {A : Array Value} (ext : ∀ b o, H.get b = some o → hp b = some o) (rh : RH η hp w) (ra : RA η tm A) : ∀ (l : List ResultVar) (cs : List (Bool × List At)), resCs P tm H l = some cs →
    ∃ vs, comps η cs = some vs ∧ (l.mapM (resSem A)).run P w = .ok vs w := by
  intro l
  induction l with
  | nil => intro cs h; simp [resCs] at h; subst h; exact ⟨[], rfl, by simp⟩
  | cons r l ih =>
    intro cs h
    simp only [resCs] at h
    cases hc : resC P tm H r with
    | none => simp [hc] at h
    | some c => cases hl : resCs P tm H l with
      | none => simp [hc, hl] at h
      | some cs' =>
        obtain ⟨g, m⟩ := c
        simp [hc, hl] at h; subst h
        obtain ⟨cv, h1, h2⟩ := resC_ok hc ext rh ra
        obtain ⟨vs, h3, h4⟩ := ih cs' hl
        refine ⟨cv :: vs, by simp [comps, h1, h3], ?_⟩
        rw [List.mapM_cons]
        simp only [Sem.run_bind, h2, Result.andThen_ok, h4, Sem.run_pure]

theorem results_ok {P : Program} {tm : Tr V} {H : Tr AObj} {fn : Func} {cs : List (Bool × List At)} (h : resCs P tm H fn.results.toList = some cs) {η : Env} {hp : Hp} {w : World} {A : Array Value} (ext : ∀ b o, H.get b = some o → hp b = some o) (rh : RH η hp w) (ra : RA η tm A) :
    ∃ cv, (resV cs).conc η = some cv ∧ (results fn A).run P w = .ok cv w := by
  obtain ⟨vs, h1, h2⟩ := resCs_ok ext rh ra _ _ h
  have hm : (results fn A).run P w = .ok (if h : (⟨vs⟩ : Array Value).size = 1 then (⟨vs⟩ : Array Value)[0] else .tuple ⟨vs⟩) w := by
    rw [results_eq, Array.mapM_eq_mapM_toList]
    simp only [map_eq_pure_bind, bind_assoc, pure_bind, Sem.run_bind, h2, Result.andThen_ok, Sem.run_pure]
  refine ⟨_, ?_, hm⟩
  match cs, h1 with
  | [], h1 => simp [comps] at h1; subst h1; rfl
  | [(g, l)], h1 =>
    simp only [comps] at h1
    cases hc : comp η g l with
    | none => simp [hc] at h1
    | some v => simp [hc] at h1; subst h1; simp [resV, V.conc, hc]
  | a :: b :: r, h1 =>
    have hlen : 1 < vs.length := by
      obtain ⟨g, l⟩ := a
      obtain ⟨g', l'⟩ := b
      simp only [comps] at h1
      cases hc : comp η g l with
      | none => simp [hc] at h1
      | some v => cases hc' : comp η g' l' with
        | none => simp [hc, hc'] at h1
        | some v' => cases hr : comps η r with
          | none => simp [hc, hc', hr] at h1
          | some vs' => simp [hc, hc', hr] at h1; subst h1; simp
    have hne : ¬ ((⟨vs⟩ : Array Value).size = 1) := by show ¬ (vs.length = 1); omega
    rw [dif_neg hne]
    simp only [resV, V.conc, h1]

end Go.Proofs.YtphpkalbbmlgoaaGreatDoor.Ev

namespace Go.Proofs.YtphpkalbbmlgoaaGreatDoor.Ev
open Go

def exC : Ex → Exit
  | .normal => .normal
  | .exit i => .exit i
  | .goto l => .goto l
  | .ret => .ret

def DR (η : Env) : List Nat → List Deferred → Prop
  | [], [] => True
  | d :: ds, x :: xs => (∃ D, η.blk d = some D ∧ x = { target := .collected D.1, args := #[] }) ∧ DR η ds xs
  | _, _ => False

theorem DR.mono {η η' : Env} (hle : η.le η') : ∀ {ds : List Nat} {xs : List Deferred}, DR η ds xs → DR η' ds xs
  | [], [], _ => trivial
  | [], _ :: _, h => h.elim
  | _ :: _, [], h => h.elim
  | _ :: _, _ :: _, ⟨⟨D, h1, h2⟩, h⟩ => ⟨⟨D, (hle.blk _ _ h1).1, h2⟩, h.mono hle⟩

def RO (η : Env) : Option Nat → Option Nat → Prop
  | none, none => True
  | some l, some L => ∃ β, η.blk l = some (L, β)
  | _, _ => False

theorem RO.mono {η η' : Env} (hle : η.le η') : ∀ {ro cro : Option Nat}, RO η ro cro → RO η' ro cro
  | none, none, _ => trivial
  | none, some _, h => h.elim
  | some _, none, h => h.elim
  | some _, some _, ⟨β, h⟩ => ⟨β, (hle.blk _ _ h).1⟩

def WpC (m : Nat) (F : Fence) (n : Nat) (P : Program) (c : Code) (Q : Exit → Act → World → Prop) (A : Act) (w : World) : Prop :=
  match c with
  | .loop b => Code.roundsIn F n P b Q m A w
  | c => c.wpIn F n P Q A w

theorem WpC.wp {m : Nat} {F : Fence} {n : Nat} {P : Program} {c : Code} {Q : Exit → Act → World → Prop} {A : Act} {w : World} (h : WpC m F n P c Q A w) : c.wpIn F n P Q A w := by
  cases c <;> first | exact h | exact wpIn_loop_rounds m h

structure Ctx (P : Program) (nt : Nat) (η : Env) (h : Hp) (w : World) (H : Tr AObj) (nx nx' : Nat) (tm : Tr V) (ds : List Nat) (ro : Option Nat) (A : Act) (cro : Option Nat) : Prop where
  pre : Pre η h w H.get nx nx'
  ra : RA η tm A.tmps
  sz : A.tmps.size = nt
  dr : DR η ds A.defers
  gl : η.glob P
  ro : RO η ro cro

def Ends (η : Env) (h : Hp) (w : World) (H H' : Tr AObj) (nx nx' : Nat) (tm' : Tr V) (ds' : List Nat) (nt : Nat) (Q : Act → World → Prop) : Prop :=
  ∀ η' w' A', Stp η h w H.get H'.get nx nx' η' w' → RA η' tm' A'.tmps → A'.tmps.size = nt → DR η' ds' A'.defers → Q A' w'

def CodeOk (P : Program) (m : Nat) (c : Code) (nt : Nat) (ro : Option Nat) (tm : Tr V) (H : Tr AObj) (nx : Nat) (ds : List Nat) (ex : Ex) (tm' : Tr V) (H' : Tr AObj) (nx' : Nat) (ds' : List Nat) : Prop :=
  Dm H.get H'.get nx nx' ∧ ∀ η h w A cro n Q, Ctx P nt η h w H nx nx' tm ds ro A cro → Ends η h w H H' nx nx' tm' ds' nt (Q (exC ex)) → WpC m (fe cro) n P c Q A w

def ScopeOk (P : Program) (m : Nat) (b r : Code) (nt : Nat) (ro : Option Nat) (tm : Tr V) (H : Tr AObj) (nx : Nat) (ds : List Nat) (ex : Ex) (tm' : Tr V) (H' : Tr AObj) (nx' : Nat) (ds' : List Nat) : Prop :=
  Dm H.get H'.get nx nx' ∧ ∀ η h w A cro n Q, Ctx P nt η h w H nx nx' tm ds ro A cro → Ends η h w H H' nx nx' tm' ds' nt (Q (exC ex)) → scopeIn (fe cro) n P b Q m r A w

structure FnsOk (P : Program) (F : Fns) (m : Nat) : Prop where
  ops : OpsOk P F
  code : ∀ c nt ro tm H nx ds ex tm' H' nx' ds', F.code c nt ro tm H nx ds = some (ex, tm', H', nx', ds') → CodeOk P m c nt ro tm H nx ds ex tm' H' nx' ds'
  scope : ∀ b r nt ro tm H nx ds ex tm' H' nx' ds', F.scope b r nt ro tm H nx ds = some (ex, tm', H', nx', ds') → ScopeOk P m b r nt ro tm H nx ds ex tm' H' nx' ds'

theorem Ctx.next {P : Program} {nt : Nat} {η : Env} {h : Hp} {w : World} {H : Tr AObj} {nx nx2 : Nat} {tm : Tr V} {ds : List Nat} {ro : Option Nat} {A : Act} {cro : Option Nat} (c : Ctx P nt η h w H nx nx2 tm ds ro A cro)
    {H1 : Tr AObj} {nx1 : Nat} {η1 : Env} {w1 : World} (d : Dm H.get H1.get nx nx1) (s : Stp η h w H.get H1.get nx nx1 η1 w1) {tm1 : Tr V} {ds1 : List Nat} {A1 : Act} (ra : RA η1 tm1 A1.tmps) (sz : A1.tmps.size = nt) (dr : DR η1 ds1 A1.defers) :
    Ctx P nt η1 (ovr h H.get H1.get nx nx1) w1 H1 nx1 nx2 tm1 ds1 ro A1 cro :=
  ⟨c.pre.next d s, ra, sz, dr, glob_mono c.gl s.le, c.ro.mono s.le⟩

theorem Ctx.less {P : Program} {nt : Nat} {η : Env} {h : Hp} {w : World} {H : Tr AObj} {nx nx1 nx2 : Nat} {tm : Tr V} {ds : List Nat} {ro : Option Nat} {A : Act} {cro : Option Nat} (c : Ctx P nt η h w H nx nx2 tm ds ro A cro) (hle : nx1 ≤ nx2) :
    Ctx P nt η h w H nx nx1 tm ds ro A cro := ⟨c.pre.less hle, c.ra, c.sz, c.dr, c.gl, c.ro⟩

theorem Ends.next {η : Env} {h : Hp} {w : World} {H H1 H2 : Tr AObj} {nx nx1 nx2 : Nat} {tm' : Tr V} {ds' : List Nat} {nt : Nat} {Q : Act → World → Prop} (e : Ends η h w H H2 nx nx2 tm' ds' nt Q) {η1 : Env} {w1 : World}
    (d1 : Dm H.get H1.get nx nx1) (d2 : Dm H1.get H2.get nx1 nx2) (s : Stp η h w H.get H1.get nx nx1 η1 w1) : Ends η1 (ovr h H.get H1.get nx nx1) w1 H1 H2 nx1 nx2 tm' ds' nt Q :=
  fun η' w' A' s' ra sz dr => e η' w' A' (Stp.trans d1 d2 s s') ra sz dr

theorem dm_loopSt {H H' : Tr AObj} {l : Nat} {st : LoopState} {pe : Option Code} (h : loopSt H l st pe = some H') (nx : Nat) : Dm H.get H'.get nx nx := by
  unfold loopSt at h
  split at h
  · rename_i hb; cases h; exact dm_set hb _ _
  · cases h

theorem loop_rec {η : Env} {h : Hp} {w : World} {H : Tr AObj} {nx nx' : Nat} (p : Pre η h w H.get nx nx') {l : Nat} {st : LoopState} {pe : Option Code} {tm : Tr V} {nt : Nat} {ps : Array Tmp} {assign body : Code} {df : Nat}
    (hl : H.get l = some (.loop st pe tm nt ps assign body df)) {L : Nat × Nat} (hL : η.blk l = some L) :
    ∃ f A D, w.heap[L.1]? = some (.loop ⟨st, pe, f, A, ps, assign, body, D⟩) ∧ RA η tm A ∧ A.size = nt ∧ ∃ β, η.blk df = some (D, β) := by
  obtain ⟨B, co, hB, hw, f, A, D, rfl, h1, h2, h3⟩ := p.rh.live l _ (p.ext l _ hl)
  obtain rfl : L = B := Option.some.inj (hL.symm.trans hB)
  exact ⟨f, A, D, hw, h1, h2, h3⟩

theorem loopSt_ok {P : Program} {η : Env} {h : Hp} {w : World} {H H' : Tr AObj} {nx : Nat} (p : Pre η h w H.get nx nx) {l : Nat} {st' : LoopState} {pe' : Option Code} (hs : loopSt H l st' pe' = some H') {L : Nat × Nat} (hL : η.blk l = some L) :
    ∃ r : Loop, w.heap[L.1]? = some (.loop r) ∧ (setObj L.1 (.loop { r with state := st', pending := pe' })).run P w = .ok () { w with heap := w.heap.setIfInBounds L.1 (.loop { r with state := st', pending := pe' }) } ∧
      Stp η h w H.get H'.get nx nx η { w with heap := w.heap.setIfInBounds L.1 (.loop { r with state := st', pending := pe' }) } := by
  unfold loopSt at hs
  split at hs
  · rename_i st pe tm nt ps assign body df hl
    cases hs
    obtain ⟨f, A, D, hw, h1, h2, h3⟩ := loop_rec p hl hL
    have hlt : L.1 < w.heap.size := (Array.getElem?_eq_some_iff.1 hw).1
    refine ⟨_, hw, by simp [setObj, Sem.run, hw], (Stp.set (w' := { w with heap := w.heap.setIfInBounds L.1 (.loop ⟨st', pe', f, A, ps, assign, body, D⟩) }) p hl hL (co' := .loop ⟨st', pe', f, A, ps, assign, body, D⟩) (o' := .loop st' pe' tm nt ps assign body df) ?_ ?_ rfl rfl rfl (by simp) ⟨f, A, D, rfl, h1, h2, h3⟩).2⟩
    · simp [hlt]
    · intro j hj; simp [Array.getElem?_setIfInBounds_ne (Ne.symm hj)]
  · cases hs

theorem stepAfter_ok {P : Program} {F : Fns} {m : Nat} (hF : FnsOk P F m) {l nt : Nat} {ro : Option Nat} {tm : Tr V} {ds : List Nat} {v : V} {H2 : Tr AObj} {nx2 : Nat} {ex : Ex} {tm' : Tr V} {H' : Tr AObj} {nx' : Nat} {ds' : List Nat}
    (he : stepAfter F l nt ro tm ds (some (v, H2, nx2)) = some (ex, tm', H', nx', ds')) :
    Dm H2.get H'.get nx2 nx' ∧ ∀ η h w A cro n Q L, Ctx P nt η h w H2 nx2 nx' tm ds ro A cro → η.blk l = some L → Ends η h w H2 H' nx2 nx' tm' ds' nt (Q (exC ex)) →
      ∃ jump w4, (Instr.endLoop L.1).run P w = .ok jump w4 ∧ (match jump with | none => Q .normal A w4 | some c => c.wpIn (fe cro) n P Q A w4) := by
  unfold stepAfter at he
  simp only at he
  split at he
  · rename_i st pe tmL ntL ps assign body df hl
    have key : ∀ H3, loopSt H2 l .exhausted pe = some H3 → (match pe with | none => some (Ex.normal, tm, H3, nx2, ds) | some c => F.code c nt ro tm H3 nx2 ds) = some (ex, tm', H', nx', ds') → st ≠ .busy →
        Dm H2.get H'.get nx2 nx' ∧ ∀ η h w A cro n Q L, Ctx P nt η h w H2 nx2 nx' tm ds ro A cro → η.blk l = some L → Ends η h w H2 H' nx2 nx' tm' ds' nt (Q (exC ex)) →
          ∃ jump w4, (Instr.endLoop L.1).run P w = .ok jump w4 ∧ (match jump with | none => Q .normal A w4 | some c => c.wpIn (fe cro) n P Q A w4) := by
      intro H3 h3 hrest hst
      have d1 := dm_loopSt h3 nx2
      have run : ∀ {η : Env} {h : Hp} {w : World} {L : Nat × Nat}, Pre η h w H2.get nx2 nx2 → η.blk l = some L → ∃ w4, (Instr.endLoop L.1).run P w = .ok pe w4 ∧ Stp η h w H2.get H3.get nx2 nx2 η w4 := by
        intro η h w L p hL
        obtain ⟨f, A, D, hw, _, _, _⟩ := loop_rec p hl hL
        obtain ⟨r, hr, hset, hstp⟩ := loopSt_ok (P := P) p h3 hL
        rw [hw] at hr; cases hr
        refine ⟨_, ?_, hstp⟩
        have hg : (Instr.getLoop L.1).run P w = .ok ⟨st, pe, f, A, ps, assign, body, D⟩ w := by simp [Instr.getLoop, getObj, Sem.run, hw]
        have hb : ¬ ((st == LoopState.busy) = true) := by simpa using hst
        simp only [Instr.endLoop, Sem.run_bind, hg, Result.andThen_ok, if_neg hb, hset, Sem.run_pure]
      cases pe with
      | none =>
        cases hrest
        refine ⟨d1, fun η h w A cro n Q L c hL hQ => ?_⟩
        obtain ⟨w4, h1, h2⟩ := run c.pre hL
        exact ⟨none, w4, h1, hQ η w4 A h2 c.ra c.sz c.dr⟩
      | some cd =>
        obtain ⟨d2, h5⟩ := hF.code _ _ _ _ _ _ _ _ _ _ _ _ hrest
        refine ⟨d1.trans d2, fun η h w A cro n Q L c hL hQ => ?_⟩
        obtain ⟨w4, h1, h2⟩ := run (c.pre.less d2.le) hL
        refine ⟨some cd, w4, h1, (h5 η _ w4 A cro n Q (c.next d1 h2 c.ra c.sz c.dr) (hQ.next d1 d2 h2)).wp⟩
    split at he
    · cases he
    · rename_i hnb
      split at he
      · rename_i H3 h3
        refine key H3 h3 ?_ (fun e => hnb e)
        cases pe <;> exact he
      · cases he
  · cases he

end Go.Proofs.YtphpkalbbmlgoaaGreatDoor.Ev

namespace Go.Proofs.YtphpkalbbmlgoaaGreatDoor.Ev
open Go

theorem putPs_ok {η : Env} {nt : Nat} : ∀ (ps : List Tmp) (vs : List V) (cs : List Value) (tm tm' : Tr V) (A : Array Value), putPs nt ps vs tm = some tm' → VL η vs cs → RA η tm A → A.size = nt →
    ps.length = cs.length ∧ RA η tm' ((ps.zip cs).foldl (fun t (p : Tmp × Value) => t.setIfInBounds p.1 p.2) A) ∧ ((ps.zip cs).foldl (fun t (p : Tmp × Value) => t.setIfInBounds p.1 p.2) A).size = nt := by
  intro ps
  induction ps with
  | nil =>
    intro vs cs tm tm' A h hv ra hn
    cases vs with
    | nil =>
      cases cs with
      | nil => simp [putPs] at h; subst h; exact ⟨rfl, ra, hn⟩
      | cons _ _ => exact hv.elim
    | cons _ _ => simp [putPs] at h
  | cons p ps ih =>
    intro vs cs tm tm' A h hv ra hn
    cases vs with
    | nil => simp [putPs] at h
    | cons v vs =>
      cases cs with
      | nil => exact hv.elim
      | cons c cs =>
        simp only [putPs] at h
        split at h
        · rename_i hlt
          have hp : p < A.size := by rw [hn]; exact blt_lt hlt
          obtain ⟨h1, h2, h3⟩ := ih vs cs _ tm' (A.setIfInBounds p c) h hv.2 (ra.put hp hv.1) (by simp [hn])
          exact ⟨by simp [h1], h2, h3⟩
        · cases h

theorem stepRound_ok {P : Program} {F : Fns} {m : Nat} (hF : FnsOk P F m) {l : Nat} {args : List V} {H : Tr AObj} {nx : Nat} {v : V} {H' : Tr AObj} {nx' : Nat} (he : stepRound F l args H nx = some (v, H', nx')) : RoundOk P l args H nx v H' nx' := by
  unfold stepRound at he
  split at he
  · rename_i st0 pe0 tm nt ps assign body df hl
    split at he
    · rename_i tm0 hps
      split at he
      · rename_i tm1 H1 nx1 hass
        split at he
        · rename_i pe1 tmL ntL psL assL bodyL dfL hl1
          split at he
          · rename_i H2 h2
            obtain ⟨d1, hA⟩ := hF.code _ _ _ _ _ _ _ _ _ _ _ _ hass
            have d2 := dm_loopSt h2 nx1
            -- the end of the round, whichever it is
            have key : ∀ (ex : Ex) (tm3 : Tr V) (H3 : Tr AObj) (nx3 : Nat) (st' : LoopState) (jump : Option Code) (H4 : Tr AObj), F.code body nt (some l) tm1 H2 nx1 [] = some (ex, tm3, H3, nx3, []) → loopSt H3 l st' jump = some H4 →
                (st' = if jump.isNone then .ready else .done) → (∀ (R : Ending → World → Prop) L A w, (∃ v w', (Instr.endRound L jump).run P w = .ok v w' ∧ R (.returned v) w') → roundPost P L R (exC ex) A w) →
                RoundOk P l args H nx (.one (.bool jump.isNone)) H4 nx3 := by
              intro ex tm3 H3 nx3 st' jump H4 hbody h4 hst' hpost
              obtain ⟨d3, hB⟩ := hF.code _ _ _ _ _ _ _ _ _ _ _ _ hbody
              have d4 := dm_loopSt h4 nx3
              refine ⟨((d1.trans d2).trans d3).trans d4, fun η h w cargs L p hvl hg hL => ?_⟩
              obtain ⟨f, A, D, hw, hra, hsz, _⟩ := loop_rec p hl hL
              obtain ⟨hlen, hra0, hsz0⟩ := putPs_ok ps.toList args cargs tm tm0 A hps hvl hra hsz
              refine ⟨f, (ps.toList.zip cargs).foldl (fun t (p : Tmp × Value) => t.setIfInBounds p.1 p.2) A, assign, body, ?_, fun n => ?_⟩
              · have hg' : (Instr.getLoop L.1).run P w = .ok ⟨st0, pe0, f, A, ps, assign, body, D⟩ w := by simp [Instr.getLoop, getObj, Sem.run, hw]
                have hs : ¬ ((⟨cargs⟩ : Array Value).size ≠ ps.size) := by
                  intro hc; apply hc; show cargs.length = ps.size; rw [← hlen]; simp
                have hz : (ps.zip ⟨cargs⟩).foldl (fun tmps (x : Tmp × Value) => tmps.setIfInBounds x.1 x.2) A = (ps.toList.zip cargs).foldl (fun t (p : Tmp × Value) => t.setIfInBounds p.1 p.2) A := by
                  rw [← Array.foldl_toList]; simp
                simp only [Instr.yield, Sem.run_bind, hg', Result.andThen_ok, if_neg hs, Sem.run_pure]
                rw [← hz]
              · refine roundIn_of_wpIn (F := fe none) trivial ?_
                have hro : RO η (some l) (some L.1) := ⟨L.2, hL⟩
                have hmono : nx1 ≤ nx3 := d3.le
                refine (hA η h w ⟨_, []⟩ (some L.1) n _ ⟨p.less hmono, hra0, hsz0, trivial, hg, hro⟩ (fun η1 w1 A1 s1 ra1 sz1 dr1 => ?_)).wp
                have p1 := p.next d1 s1
                have hL1 : η1.blk l = some L := (s1.le.blk l L hL).1
                obtain ⟨f1, A1', D1, hw1, _, _, _⟩ := loop_rec p1 hl1 hL1
                obtain ⟨r1, hr1, hset1, hstp1⟩ := loopSt_ok (P := P) (p1.less hmono) h2 hL1
                rw [hw1] at hr1; cases hr1
                refine ⟨{ w1 with heap := w1.heap.setIfInBounds L.1 (.loop ⟨.busy, pe1, f1, A1', psL, assL, bodyL, D1⟩) }, ?_, ?_⟩
                · have hg1 : (Instr.getLoop L.1).run P w1 = .ok ⟨.ready, pe1, f1, A1', psL, assL, bodyL, D1⟩ w1 := by simp [Instr.getLoop, getObj, Sem.run, hw1]
                  simp only [Instr.beginRound, Sem.run_bind, hg1, Result.andThen_ok, hset1, Sem.run_pure]
                · have s12 := Stp.trans d1 d2 s1 hstp1
                  have p2 : Pre η1 (ovr h H.get H2.get nx nx1) _ H2.get nx1 nx3 := p.next (d1.trans d2) s12
                  have hdr1 : A1.defers = [] := by cases hd : A1.defers with | nil => rfl | cons _ _ => rw [hd] at dr1; exact dr1.elim
                  refine (hB η1 _ _ A1 (some L.1) n _ ⟨p2, ra1, sz1, by rw [hdr1]; trivial, glob_mono hg s1.le, ⟨L.2, hL1⟩⟩ (fun η3 w3 A3 s3 ra3 sz3 dr3 => ?_)).wp
                  have s13 := Stp.trans (d1.trans d2) d3 s12 s3
                  have p3 : Pre η3 (ovr h H.get H3.get nx nx3) w3 H3.get nx3 nx3 := p.next ((d1.trans d2).trans d3) s13
                  have hL3 : η3.blk l = some L := (s3.le.blk l L hL1).1
                  obtain ⟨r3, hr3, hset3, hstp3⟩ := loopSt_ok (P := P) p3 h4 hL3
                  refine hpost _ _ _ _ ⟨.bool jump.isNone, _, ?_, .bool jump.isNone, η3, rfl, one_conc.2 rfl, Stp.trans ((d1.trans d2).trans d3) d4 s13 hstp3⟩
                  have hg3 : (Instr.getLoop L.1).run P w3 = .ok r3 w3 := by simp [Instr.getLoop, getObj, Sem.run, hr3]
                  rw [hst'] at hset3
                  simp only [Instr.endRound, Sem.run_bind, hg3, Result.andThen_ok, hset3, Sem.run_pure]
                  rw [hst']
            split at he
            · rename_i tm3 H3 nx3 hbody
              split at he
              · rename_i H4 h4
                cases he
                exact key .normal _ _ _ _ none _ hbody h4 rfl (fun R L A w h => h)
              · cases he
            · rename_i tm3 H3 nx3 hbody
              split at he
              · rename_i H4 h4
                cases he
                exact key .ret _ _ _ _ (some .ret) _ hbody h4 rfl (fun R L A w h => h)
              · cases he
            · rename_i id tm3 H3 nx3 hbody
              split at he
              · rename_i H4 h4
                cases he
                exact key (.exit id) _ _ _ _ (some (.exit id)) _ hbody h4 rfl (fun R L A w h => h)
              · cases he
            · rename_i t tm3 H3 nx3 hbody
              split at he
              · rename_i H4 h4
                cases he
                exact key (.goto t) _ _ _ _ (some (.goto t)) _ hbody h4 rfl (fun R L A w h => h)
              · cases he
            · cases he
          · cases he
        · cases he
      · cases he
    · cases he
  · cases he

theorem dropDs_ok {P : Program} {fn : Func} {nx : Nat} {R : Ending → World → Prop} {n : Nat} {tmps : Array Value} : ∀ (ds : List Nat) (H H' : Tr AObj) (xs : List Deferred), dropDs ds H = some H' →
    Dm H.get H'.get nx nx ∧ ∀ η h w, Pre η h w H.get nx nx → DR η ds xs → (∀ w', Stp η h w H.get H'.get nx nx η w' → ∃ v, (results fn tmps).run P w' = .ok v w' ∧ R (.returned v) w') → LeavesInM (fe none) n P fn tmps R xs .returning w := by
  intro ds
  induction ds with
  | nil =>
    intro H H' xs h
    simp [dropDs] at h; subst h
    refine ⟨Dm.refl _ _, fun η h w p dr hR => ?_⟩
    cases xs with
    | nil => exact hR w (Stp.refl p.ext p.rh)
    | cons _ _ => exact dr.elim
  | cons d ds ih =>
    intro H H' xs h
    simp only [dropDs] at h
    split at h
    · rename_i hd
      have d1 := dm_drop H d nx
      cases xs with
      | nil =>
        obtain ⟨d2, _⟩ := ih (H.put none d) H' [] h
        exact ⟨d1.trans d2, fun η h w p dr hR => dr.elim⟩
      | cons x xs =>
        obtain ⟨d2, hrec⟩ := ih (H.put none d) H' xs h
        refine ⟨d1.trans d2, fun η h w p dr hR => ?_⟩
        obtain ⟨⟨D, hD, rfl⟩, dr⟩ := dr
        obtain ⟨B, co, hB, hw, hrel⟩ := p.rh.live d _ (p.ext d _ hd)
        obtain rfl : D = B := Option.some.inj (hD.symm.trans hB)
        have hco : co = .deferred (some []) := hrel
        subst hco
        have hlose := Stp.lose (w' := { w with heap := w.heap.setIfInBounds D.1 (.deferred none) }) p hd hD (fun k hk => by simp [Array.getElem?_setIfInBounds_ne (Ne.symm hk)]) rfl rfl rfl (by simp)
        refine ⟨by simp, .inl ⟨D.1, _, rfl, ?_, hrec η _ _ (p.next d1 hlose) dr (fun w' s' => hR w' (Stp.trans d1 d2 hlose s'))⟩⟩
        simp [Instr.takeDeferred, getObj, setObj, Sem.run, hw]
    · cases h

theorem leave_ok {P : Program} {fn : Func} {tm : Tr V} {H : Tr AObj} {nx : Nat} {ds : List Nat} {v : V} {H' : Tr AObj} {nx' : Nat} (he : leave P fn tm H nx ds = some (v, H', nx')) :
    nx' = nx ∧ Dm H.get H'.get nx nx ∧ ∀ (η : Env) (h : Hp) (w : World) (A : Act) (n : Nat) (R : Ending → World → Prop), Pre η h w H.get nx nx → RA η tm A.tmps → DR η ds A.defers → (∀ cv w', v.conc η = some cv → Stp η h w H.get H'.get nx nx η w' → R (.returned cv) w') →
      LeavesInM (fe none) n P fn A.tmps R A.defers .returning w := by
  unfold leave at he
  split at he
  · rename_i H1 hd
    split at he
    · rename_i cs hcs
      cases he
      refine ⟨rfl, (dropDs_ok (P := P) (fn := fn) (nx := nx) (R := fun _ _ => True) (n := 0) (tmps := #[]) ds H H' [] hd).1, fun η h w A n R p ra dr hR => ?_⟩
      obtain ⟨d1, h1⟩ := dropDs_ok (P := P) (fn := fn) (nx := nx) (R := R) (n := n) (tmps := A.tmps) ds H H' A.defers hd
      refine h1 η h w p dr (fun w' s' => ?_)
      have p' := p.next d1 s'
      obtain ⟨cv, h2, h3⟩ := results_ok hcs p'.ext p'.rh ra
      exact ⟨cv, h3, hR cv w' h2 s'⟩
    · cases he
  · cases he

theorem tmOf_ok {η : Env} : ∀ (args : List V) (cargs : List Value), VL η args cargs → ∀ (i : Nat) (pre rest : List Value), pre.length = i → RA η (tmOf i args) ⟨pre ++ cargs ++ rest⟩ := by
  intro args
  induction args with
  | nil => intro cargs h i pre rest hp t v hv; simp [tmOf, Tr.get_nil] at hv
  | cons a args ih =>
    intro cargs h i pre rest hp
    cases cargs with
    | nil => exact h.elim
    | cons c cargs =>
      intro t v hv
      simp only [tmOf, Tr.get_put] at hv
      by_cases e : t = i
      · rw [if_pos e] at hv; cases hv
        subst e
        rw [h.1]
        simp [← hp]
      · rw [if_neg e] at hv
        have := ih cargs h.2 (i + 1) (pre ++ [c]) rest (by simp [hp]) t v hv
        simpa using this

end Go.Proofs.YtphpkalbbmlgoaaGreatDoor.Ev

namespace Go.Proofs.YtphpkalbbmlgoaaGreatDoor.Ev
open Go

theorem then_other {K : Act → World → Prop} {Q : Exit → Act → World → Prop} {ex : Ex} (hne : ex ≠ .normal) : Exit.then K Q (exC ex) = Q (exC ex) := by
  cases ex <;> first | exact absurd rfl hne | rfl

theorem evCond_ok {P : Program} {tm : Tr V} {c : Operand} {b : Bool} (h : evCond P tm c = some b) {η : Env} {A : Act} (ra : RA η tm A.tmps) (hg : η.glob P) : A.eval c = .bool b := by
  unfold evCond at h
  split at h
  · rename_i b' hb
    cases h
    have := evO_one ra hg hb
    simp only [At.conc] at this
    exact (Option.some.inj this).symm
  · cases h

theorem range_ok {P : Program} (hN : NoNum P) {F : Fns} {m : Nat} (hF : FnsOk P F m) {g : Operand} {ps : Array Tmp} {assign body : Code} {nt l nx1 : Nat} {ro : Option Nat} {tm : Tr V} {ds1 : List Nat} {f : FuncId} {caps : List (Nat × Nat)} {H1 : Tr AObj} {ex : Ex} {tm' : Tr V} {H' : Tr AObj} {nx' : Nat} {ds' : List Nat}
    (hgv : evO P tm g = some (.one (.fn f [] caps))) (he : stepAfter F l nt ro tm ds1 (F.call f (.one (.yld l) :: capsV caps) H1 nx1) = some (ex, tm', H', nx', ds')) :
    Dm H1.get H'.get nx1 nx' ∧ ∀ (w : World) (A : Act) (cro : Option Nat) (n : Nat) (Q : Exit → Act → World → Prop),
      (∀ fn, ∃ (η1 : Env) (h1 : Hp) (w1 : World) (L : Nat × Nat) (mark : List Deferred), (Instr.enterLoop fn A.tmps ps assign body cro).run P w = .ok (L.1, mark) w1 ∧ Ctx P nt η1 h1 w1 H1 nx1 nx' tm ds1 ro ⟨A.tmps, mark ++ A.defers⟩ cro ∧ η1.blk l = some L ∧
        Ends η1 h1 w1 H1 H' nx1 nx' tm' ds' nt (Q (exC ex))) → (Code.rangeFunc g ps assign body).wpIn (fe cro) n P Q A w := by
  cases hc : F.call f (.one (.yld l) :: capsV caps) H1 nx1 with
  | none => rw [hc] at he; simp [stepAfter] at he
  | some r =>
    obtain ⟨v, H2, nx2⟩ := r
    rw [hc] at he
    obtain ⟨⟨fnn, hfn, hfb⟩, d2, hcall⟩ := hF.ops.call _ _ _ _ _ _ _ hc
    obtain ⟨d3, hafter⟩ := stepAfter_ok hF he
    refine ⟨d2.trans d3, fun w A cro n Q hall => ?_⟩
    refine wpIn_rangeFunc (fun fn _ => ?_)
    obtain ⟨η1, h1, w1, L, mark, henter, c, hL, hQ⟩ := hall fn
    have ra : RA η1 tm A.tmps := c.ra
    obtain ⟨⟨fs, cs⟩, ⟨g1, g2⟩, g3⟩ := conc_fn (evO_one (A := A) ra c.gl hgv)
    simp [fsts] at g1
    subst g1
    simp only at g2 g3
    refine ⟨L.1, mark, w1, { target := .fn (.func f) ⟨cs⟩, args := #[.func (.yield L.1) #[] #[]] }, w1, f, ⟨.func (.yield L.1) #[] #[] :: cs⟩, w1, henter, ?_, fun _ _ => trivial, ?_, fun h => by simp [fe] at h, ?_⟩
    · simp only [resolve, g3, Deferred.ofValue, Sem.run_pure]
      simp [Act.eval]
    · have e : (#[.func (.yield L.1) #[] #[]] : Array Value) ++ (⟨cs⟩ : Array Value) = ⟨.func (.yield L.1) #[] #[] :: cs⟩ := by apply Array.ext'; simp
      simp only [invoke, run_callFunc hN hfn hfb, e]
    · refine calls_fe ((hcall η1 h1 w1 (.func (.yield L.1) #[] #[] :: cs) (c.pre.less d3.le) ⟨by rw [one_conc]; simp [At.conc, hL], capsV_ok caps cs g2⟩ c.gl).mono ?_)
      rintro e w3 ⟨cv, η3, rfl, _, s3⟩
      have c3 := c.next d2 s3 (tm1 := tm) (ds1 := ds1) (A1 := ⟨A.tmps, mark ++ A.defers⟩) (c.ra.mono s3.le) c.sz (c.dr.mono s3.le)
      exact hafter η3 _ w3 _ cro n Q L c3 (s3.le.blk l L hL).1 (hQ.next d2 d3 s3)

theorem stepCode_ok {P : Program} (hN : NoNum P) (hmix : P.follows .mixedOrders = true) {F : Fns} {m : Nat} (hF : FnsOk P F m) {c : Code} {nt : Nat} {ro : Option Nat} {tm : Tr V} {H : Tr AObj} {nx : Nat} {ds : List Nat} {ex : Ex} {tm' : Tr V} {H' : Tr AObj} {nx' : Nat} {ds' : List Nat}
    (he : stepCode F P c nt ro tm H nx ds = some (ex, tm', H', nx', ds')) : CodeOk P (m + 1) c nt ro tm H nx ds ex tm' H' nx' ds' := by
  cases c with
  | skip =>
    simp only [stepCode] at he; cases he
    exact ⟨Dm.refl _ _, fun η h w A cro n Q c hQ => wpIn_skip (hQ η w A (Stp.refl c.pre.ext c.pre.rh) c.ra c.sz c.dr)⟩
  | exit id =>
    simp only [stepCode] at he; cases he
    exact ⟨Dm.refl _ _, fun η h w A cro n Q c hQ => wpIn_exit (hQ η w A (Stp.refl c.pre.ext c.pre.rh) c.ra c.sz c.dr)⟩
  | ret =>
    simp only [stepCode] at he; cases he
    exact ⟨Dm.refl _ _, fun η h w A cro n Q c hQ => wpIn_ret (hQ η w A (Stp.refl c.pre.ext c.pre.rh) c.ra c.sz c.dr)⟩
  | label l =>
    simp only [stepCode] at he; cases he
    exact ⟨Dm.refl _ _, fun η h w A cro n Q c hQ => wpIn_label (hQ η w A (Stp.refl c.pre.ext c.pre.rh) c.ra c.sz c.dr)⟩
  | goto l =>
    simp only [stepCode] at he; cases he
    exact ⟨Dm.refl _ _, fun η h w A cro n Q c hQ => wpIn_goto (hQ η w A (Stp.refl c.pre.ext c.pre.rh) c.ra c.sz c.dr)⟩
  | refuse why => simp [stepCode] at he
  | region id ops draw =>
    simp only [stepCode] at he
    cases draw with
    | true =>
      simp only at he
      split at he
      · rename_i tm1 H1 nx1 hd
        cases he
        obtain ⟨d, h1⟩ := evDraw_ok hN hmix hF.ops hd
        refine ⟨d, fun η h w A cro n Q c hQ => ?_⟩
        exact h1 η h w A cro n id Q c.pre c.ra c.sz c.gl (fun η' w' A' s ra sz hdf => hQ η' w' A' s ra sz (by rw [hdf]; exact c.dr.mono s.le))
      · cases he
    | false =>
      simp only at he
      split at he
      · rename_i tm1 H1 nx1 hd
        cases he
        obtain ⟨d, h1⟩ := evOps_ok hN hF.ops _ _ _ _ _ _ _ hd
        refine ⟨d, fun η h w A cro n Q c hQ => ?_⟩
        exact wpIn_region_list (h1 η h w A cro n Q c.pre c.ra c.sz c.gl (fun η' w' A' s ra sz hdf => hQ η' w' A' s ra sz (by rw [hdf]; exact c.dr.mono s.le)))
      · cases he
  | cond x a b =>
    simp only [stepCode] at he
    split at he
    · rename_i hx
      obtain ⟨d, h1⟩ := hF.code _ _ _ _ _ _ _ _ _ _ _ _ he
      exact ⟨d, fun η h w A cro n Q c hQ => wpIn_cond_true (evCond_ok hx c.ra c.gl) (h1 η h w A cro n Q c hQ).wp⟩
    · rename_i hx
      obtain ⟨d, h1⟩ := hF.code _ _ _ _ _ _ _ _ _ _ _ _ he
      exact ⟨d, fun η h w A cro n Q c hQ => wpIn_cond_false (evCond_ok hx c.ra c.gl) (h1 η h w A cro n Q c hQ).wp⟩
    · cases he
  | seq a b =>
    simp only [stepCode] at he
    split at he
    · rename_i tm1 H1 nx1 ds1 h1
      obtain ⟨d1, g1⟩ := hF.code _ _ _ _ _ _ _ _ _ _ _ _ h1
      obtain ⟨d2, g2⟩ := hF.code _ _ _ _ _ _ _ _ _ _ _ _ he
      refine ⟨d1.trans d2, fun η h w A cro n Q c hQ => ?_⟩
      refine wpIn_seq (g1 η h w A cro n _ (c.less d2.le) (fun η1 w1 A1 s1 ra1 sz1 dr1 => ?_)).wp
      exact (g2 η1 _ w1 A1 cro n Q (c.next d1 s1 ra1 sz1 dr1) (hQ.next d1 d2 s1)).wp
    · rename_i hne
      obtain ⟨d1, g1⟩ := hF.code _ _ _ _ _ _ _ _ _ _ _ _ he
      have hne' : ex ≠ .normal := fun e => by subst e; exact hne _ _ _ _ he
      refine ⟨d1, fun η h w A cro n Q c hQ => wpIn_seq (g1 η h w A cro n _ c (fun η1 w1 A1 s1 ra1 sz1 dr1 => ?_)).wp⟩
      rw [then_other hne']; exact hQ η1 w1 A1 s1 ra1 sz1 dr1
  | block id b =>
    simp only [stepCode] at he
    split at he
    · rename_i j tm1 H1 nx1 ds1 h1
      obtain ⟨d1, g1⟩ := hF.code _ _ _ _ _ _ _ _ _ _ _ _ h1
      split at he
      · rename_i hj
        cases he
        refine ⟨d1, fun η h w A cro n Q c hQ => wpIn_block (g1 η h w A cro n _ c (fun η1 w1 A1 s1 ra1 sz1 dr1 => ?_)).wp⟩
        show Exit.inBlock id Q (.exit j) A1 w1
        simp only [Exit.inBlock, Nat.eq_of_beq_eq_true hj, if_true]
        exact hQ η1 w1 A1 s1 ra1 sz1 dr1
      · rename_i hj
        cases he
        have hne : ¬ (j = id) := fun e => by subst e; simp at hj
        refine ⟨d1, fun η h w A cro n Q c hQ => wpIn_block (g1 η h w A cro n _ c (fun η1 w1 A1 s1 ra1 sz1 dr1 => ?_)).wp⟩
        show Exit.inBlock id Q (.exit j) A1 w1
        simp only [Exit.inBlock, hne, if_false]
        exact hQ η1 w1 A1 s1 ra1 sz1 dr1
    · rename_i hne
      obtain ⟨d1, g1⟩ := hF.code _ _ _ _ _ _ _ _ _ _ _ _ he
      refine ⟨d1, fun η h w A cro n Q c hQ => wpIn_block (g1 η h w A cro n _ c (fun η1 w1 A1 s1 ra1 sz1 dr1 => ?_)).wp⟩
      have := hQ η1 w1 A1 s1 ra1 sz1 dr1
      cases ex with
      | exit j => exact absurd he (hne _ _ _ _ _)
      | _ => exact this
  | loop b =>
    simp only [stepCode] at he
    split at he
    · rename_i tm1 H1 nx1 ds1 h1
      obtain ⟨d1, g1⟩ := hF.code _ _ _ _ _ _ _ _ _ _ _ _ h1
      obtain ⟨d2, g2⟩ := hF.code _ _ _ _ _ _ _ _ _ _ _ _ he
      refine ⟨d1.trans d2, fun η h w A cro n Q c hQ => ?_⟩
      refine (g1 η h w A cro n (Exit.then (Code.roundsIn (fe cro) n P b Q m) Q) (c.less d2.le) (fun η1 w1 A1 s1 ra1 sz1 dr1 => ?_)).wp
      exact g2 η1 _ w1 A1 cro n Q (c.next d1 s1 ra1 sz1 dr1) (hQ.next d1 d2 s1)
    · rename_i hne
      obtain ⟨d1, g1⟩ := hF.code _ _ _ _ _ _ _ _ _ _ _ _ he
      have hne' : ex ≠ .normal := fun e => by subst e; exact hne _ _ _ _ he
      refine ⟨d1, fun η h w A cro n Q c hQ => ?_⟩
      refine (g1 η h w A cro n (Exit.then (Code.roundsIn (fe cro) n P b Q m) Q) c (fun η1 w1 A1 s1 ra1 sz1 dr1 => ?_)).wp
      rw [then_other hne']; exact hQ η1 w1 A1 s1 ra1 sz1 dr1
  | scope b =>
    simp only [stepCode] at he
    obtain ⟨d, h1⟩ := hF.scope _ _ _ _ _ _ _ _ _ _ _ _ _ he
    exact ⟨d, fun η h w A cro n Q c hQ => wpIn_scope m (h1 η h w A cro n Q c hQ)⟩
  | rangeFunc g ps assign body =>
    simp only [stepCode] at he
    split at he
    · rename_i f caps hgv
      split at he
      · -- outermost
        obtain ⟨d, h1⟩ := range_ok (ps := ps) (assign := assign) (body := body) hN hF hgv he
        have da := dm_alloc H .dfr nx
        have db := dm_alloc (H.put (some .dfr) nx) (.loop .ready none tm nt ps assign body nx) (nx + 1)
        refine ⟨(da.trans db).trans d, fun η h w A cro n Q c hQ => h1 w A cro n Q (fun fn => ?_)⟩
        have hcro : cro = none := by cases cro with | none => rfl | some _ => exact c.ro.elim
        subst hcro
        have hle := d.le
        have hsa := (Stp.alloc (w' := w.alloc (.deferred (some []))) (c.pre.less (by omega)) (.deferred (some [])) .dfr 0 ⟨rfl, rfl, rfl, rfl⟩ rfl).2
        have pa := c.pre.next da hsa
        obtain ⟨hnb, _, _⟩ := pa.fresh (nx + 1) (Nat.le_refl _) (by omega)
        have hle2 := Env.le_set hnb ((w.alloc (.deferred (some []))).heap.size, 0) 0
        have hsb := (Stp.alloc (w' := (w.alloc (.deferred (some []))).alloc (.loop ⟨.ready, none, fn, A.tmps, ps, assign, body, w.heap.size⟩)) (pa.less (by omega)) (.loop ⟨.ready, none, fn, A.tmps, ps, assign, body, w.heap.size⟩) (.loop .ready none tm nt ps assign body nx) 0 ⟨rfl, rfl, rfl, rfl⟩
          ⟨fn, A.tmps, w.heap.size, rfl, (c.ra.mono hsa.le).mono hle2, c.sz, 0, (hle2.blk nx _ (Env.set_same _ _ _ _)).1⟩).2
        have hs := Stp.trans da db hsa hsb
        refine ⟨_, _, _, ((w.alloc (.deferred (some []))).heap.size, 0), [{ target := .collected w.heap.size, args := #[] }], ?_, c.next (da.trans db) hs (c.ra.mono hs.le) c.sz ?_, Env.set_same _ _ _ _, hQ.next (da.trans db) d hs⟩
        · rw [run_enterLoop_outer]; simp
        · exact ⟨⟨(w.heap.size, 0), (hle2.blk nx _ (Env.set_same _ _ _ _)).1, rfl⟩, c.dr.mono hs.le⟩
      · -- within a round
        rename_i l0
        split at he
        · rename_i st0 pe0 tm0 nt0 ps0 as0 bo0 df hl0
          obtain ⟨d, h1⟩ := range_ok (ps := ps) (assign := assign) (body := body) hN hF hgv he
          have da := dm_alloc H (.loop .ready none tm nt ps assign body df) nx
          refine ⟨da.trans d, fun η h w A cro n Q c hQ => h1 w A cro n Q (fun fn => ?_)⟩
          obtain ⟨L0, rfl, β0, hβ0⟩ : ∃ L0, cro = some L0 ∧ ∃ β, η.blk l0 = some (L0, β) := by
            cases hcr : cro with
            | none => have := c.ro; rw [hcr] at this; exact this.elim
            | some L0 => have := c.ro; rw [hcr] at this; exact ⟨L0, rfl, this⟩
          obtain ⟨f0, A0, D, hw0, _, _, βd, hdf⟩ := loop_rec c.pre hl0 hβ0
          obtain ⟨hnb, _, _⟩ := c.pre.fresh nx (Nat.le_refl _) (by have := d.le; omega)
          have hle2 := Env.le_set hnb (w.heap.size, 0) 0
          have hs := (Stp.alloc (w' := w.alloc (.loop ⟨.ready, none, fn, A.tmps, ps, assign, body, D⟩)) (c.pre.less (by have := d.le; omega)) (.loop ⟨.ready, none, fn, A.tmps, ps, assign, body, D⟩) (.loop .ready none tm nt ps assign body df) 0 ⟨rfl, rfl, rfl, rfl⟩
            ⟨fn, A.tmps, D, rfl, c.ra.mono hle2, c.sz, βd, (hle2.blk df _ hdf).1⟩).2
          refine ⟨_, _, _, (w.heap.size, 0), [], ?_, c.next da hs (c.ra.mono hs.le) c.sz (c.dr.mono hs.le), Env.set_same _ _ _ _, hQ.next da d hs⟩
          rw [run_enterLoop_inner hw0]
        · cases he
    · cases he

theorem stepScope_ok {P : Program} {F : Fns} {m : Nat} (hF : FnsOk P F m) {b r : Code} {nt : Nat} {ro : Option Nat} {tm : Tr V} {H : Tr AObj} {nx : Nat} {ds : List Nat} {ex : Ex} {tm' : Tr V} {H' : Tr AObj} {nx' : Nat} {ds' : List Nat}
    (he : stepScope F b r nt ro tm H nx ds = some (ex, tm', H', nx', ds')) : ScopeOk P (m + 1) b r nt ro tm H nx ds ex tm' H' nx' ds' := by
  unfold stepScope at he
  split at he
  · rename_i l tm1 H1 nx1 ds1 h1
    obtain ⟨d1, g1⟩ := hF.code _ _ _ _ _ _ _ _ _ _ _ _ h1
    split at he
    · rename_i r2 hf
      obtain ⟨d2, g2⟩ := hF.scope _ _ _ _ _ _ _ _ _ _ _ _ _ he
      refine ⟨d1.trans d2, fun η h w A cro n Q c hQ => (g1 η h w A cro n _ (c.less d2.le) (fun η1 w1 A1 s1 ra1 sz1 dr1 => ?_)).wp⟩
      simp only [exC, hf]
      exact g2 η1 _ w1 A1 cro n Q (c.next d1 s1 ra1 sz1 dr1) (hQ.next d1 d2 s1)
    · rename_i hf
      cases he
      refine ⟨d1, fun η h w A cro n Q c hQ => (g1 η h w A cro n _ c (fun η1 w1 A1 s1 ra1 sz1 dr1 => ?_)).wp⟩
      simp only [exC, hf]
      exact hQ η1 w1 A1 s1 ra1 sz1 dr1
  · rename_i hne
    obtain ⟨d1, g1⟩ := hF.code _ _ _ _ _ _ _ _ _ _ _ _ he
    refine ⟨d1, fun η h w A cro n Q c hQ => (g1 η h w A cro n _ c (fun η1 w1 A1 s1 ra1 sz1 dr1 => ?_)).wp⟩
    have := hQ η1 w1 A1 s1 ra1 sz1 dr1
    cases ex with
    | goto l => exact absurd he (hne _ _ _ _ _)
    | _ => exact this

end Go.Proofs.YtphpkalbbmlgoaaGreatDoor.Ev

namespace Go.Proofs.YtphpkalbbmlgoaaGreatDoor.Ev
open Go

def addI : Int → Int → Int
  | .ofNat x, .ofNat y => .ofNat (Nat.add x y)
  | a, b => a + b

def subI : Int → Int → Int
  | .ofNat x, .ofNat y => match Nat.ble y x with | true => .ofNat (Nat.sub x y) | false => Int.ofNat x - Int.ofNat y
  | a, b => a - b

def mulI : Int → Int → Int
  | .ofNat x, .ofNat y => .ofNat (Nat.mul x y)
  | a, b => a * b

def ltI : Int → Int → Bool
  | .ofNat x, .ofNat y => Nat.blt x y
  | .ofNat _, .negSucc _ => false
  | .negSucc _, .ofNat _ => true
  | .negSucc x, .negSucc y => Nat.blt y x

def eqI : Int → Int → Bool
  | .ofNat x, .ofNat y => Nat.beq x y
  | .negSucc x, .negSucc y => Nat.beq x y
  | _, _ => false

def wrapF (k : IntKind) (n : Int) : Int :=
  match n with
  | .ofNat m => match k with
    | .i64 => match Nat.blt m 9223372036854775808 with | true => .ofNat m | false => k.wrap (.ofNat m)
    | .u64 => match Nat.blt m 18446744073709551616 with | true => .ofNat m | false => k.wrap (.ofNat m)
    | _ => k.wrap (.ofNat m)
  | .negSucc m => k.wrap (.negSucc m)

theorem addI_eq (a b : Int) : addI a b = a + b := by cases a <;> cases b <;> rfl

theorem mulI_eq (a b : Int) : mulI a b = a * b := by cases a <;> cases b <;> rfl

theorem subI_eq (a b : Int) : subI a b = a - b := by
  cases a with
  | negSucc _ => cases b <;> rfl
  | ofNat x => cases b with
    | negSucc _ => rfl
    | ofNat y =>
      simp only [subI]
      split
      · rename_i h
        have := Nat.le_of_ble_eq_true h
        show ((x - y : Nat) : Int) = (x : Int) - (y : Int)
        omega
      · rfl

theorem blt_iff (a b : Nat) : Nat.blt a b = decide (a < b) := by
  rw [Bool.eq_iff_iff]
  simp [Nat.blt, Nat.ble_eq]
  omega

theorem ltI_eq (a b : Int) : ltI a b = decide (a < b) := by
  cases a <;> cases b <;> simp only [ltI, blt_iff]
  · simp
  · rename_i x y; simp; have : Int.negSucc y < 0 := Int.negSucc_lt_zero y; omega
  · rename_i x y; simp; have : Int.negSucc x < 0 := Int.negSucc_lt_zero x; omega
  · rename_i x y; simp only [Int.negSucc_eq]; rw [decide_eq_decide]; omega

theorem eqI_eq (a b : Int) : eqI a b = (a == b) := by
  cases a <;> cases b <;> simp only [eqI] <;> rw [Bool.eq_iff_iff] <;> simp <;> try omega

theorem wrapF_eq (k : IntKind) (n : Int) : wrapF k n = k.wrap n := by
  unfold wrapF
  split
  · rename_i m
    split
    · split
      · rename_i h; have := blt_lt h; exact (IntWalk.i64_in _ ⟨by show (-9223372036854775808 : Int) ≤ (m : Int); omega, by show (m : Int) ≤ _; omega⟩).symm
      · rfl
    · split
      · rename_i h
        have := blt_lt h
        show (m : Int) = IntKind.u64.wrap (m : Int)
        unfold IntKind.wrap
        simp [IntKind.signed, IntKind.bits]
        omega
      · rfl
    · rfl
  · rfl

def fbin (op : BinOp) (k : IntKind) (a b : Int) : Option At :=
  match op with
  | .add => some (.int k (wrapF k (addI a b)))
  | .sub => some (.int k (wrapF k (subI a b)))
  | .mul => some (.int k (wrapF k (mulI a b)))
  | .lss => some (.bool (ltI a b))
  | .leq => some (.bool (!ltI b a))
  | .gtr => some (.bool (ltI b a))
  | .geq => some (.bool (!ltI a b))
  | .eql => some (.bool (eqI a b))
  | .neq => some (.bool (!eqI a b))
  | _ => none

theorem fbin_ok {op : BinOp} {k : IntKind} {a b : Int} {r : At} (h : fbin op k a b = some r) (t : TypeId) : ∃ v, absV v = some (.one r) ∧ Go.binOp op t (.int k a) (.int k b) = pure v := by
  have e1 : ∀ x y : Int, (!ltI y x) = decide (x ≤ y) := fun x y => by rw [ltI_eq, ← decide_not, decide_eq_decide]; omega
  cases op <;> simp only [fbin] at h <;> cases h
  · exact ⟨.int k (k.wrap (a + b)), by simp [absV, absC, absAt, wrapF_eq, addI_eq], by simp [Go.binOp, Op.intArith]⟩
  · exact ⟨.int k (k.wrap (a - b)), by simp [absV, absC, absAt, wrapF_eq, subI_eq], by simp [Go.binOp, Op.intArith]⟩
  · exact ⟨.int k (k.wrap (a * b)), by simp [absV, absC, absAt, wrapF_eq, mulI_eq], by simp [Go.binOp, Op.intArith]⟩
  · exact ⟨.bool (a == b), by simp [absV, absC, absAt, eqI_eq], by simp [Go.binOp, Op.intCmp]⟩
  · exact ⟨.bool (a != b), by simp [absV, absC, absAt, eqI_eq, bne], by simp [Go.binOp, Op.intCmp]⟩
  · exact ⟨.bool (decide (a < b)), by simp [absV, absC, absAt, ltI_eq], by simp [Go.binOp, Op.intCmp]⟩
  · exact ⟨.bool (decide (a ≤ b)), by simp only [absV, absC, absAt, e1], by simp [Go.binOp, Op.intCmp]⟩
  · exact ⟨.bool (decide (a > b)), by simp [absV, absC, absAt, ltI_eq], by simp [Go.binOp, Op.intCmp]⟩
  · exact ⟨.bool (decide (a ≥ b)), by simp only [absV, absC, absAt, e1], by simp [Go.binOp, Op.intCmp]⟩

theorem evPure_bin {P : Program} {dst : Option Tmp} {op : BinOp} {t yt : TypeId} {x y : Operand} {type : TypeId} {pos : String} {after : Array Edge} {guard : Option (Nat × Bool)} {tm : Tr V} {k : IntKind} {a b : Int} {r : At}
    (hx : evO P tm x = some (.one (.int k a))) (hy : evO P tm y = some (.one (.int k b))) (h : fbin op k a b = some r) : evPure P ⟨dst, .binOp op t x y yt, type, pos, after, guard⟩ tm = some (.one r) := by
  obtain ⟨v, h1, h2⟩ := fbin_ok h t
  have rx : rho0 P tm x = .int k a := by simp [rho0, hx, V.conc, comp, concs, At.conc]
  have ry : rho0 P tm y = .int k b := by simp [rho0, hy, V.conc, comp, concs, At.conc]
  have fx : flatO P tm x = true := by simp [flatO, hx, V.conc, comp, concs, At.conc]
  have fy : flatO P tm y = true := by simp [flatO, hy, V.conc, comp, concs, At.conc]
  have hg : eqGuard op t x y (.int k a) (.int k b) = pure () := by cases op <;> rfl
  have hl : flatL P tm (Op.operands (.binOp op t x y yt)).toList = true := by simp [Op.operands, flatL, fx, fy]
  have he : execOp (rho0 P tm) ⟨dst, .binOp op t x y yt, type, pos, after, guard⟩ = pure (.value v) := by
    simp only [execOp, rx, ry, hg, h2]; rfl
  unfold evPure
  simp only [isSelect, hl, he]
  exact h1

end Go.Proofs.YtphpkalbbmlgoaaGreatDoor.Ev

namespace Go.Proofs.YtphpkalbbmlgoaaGreatDoor.Ev
open Go
noncomputable section

def kindN : IntKind → Nat
  | .i8 => 0 | .i16 => 1 | .i32 => 2 | .i64 => 3 | .u8 => 4 | .u16 => 5 | .u32 => 6 | .u64 => 7

theorem kindN_inj {a b : IntKind} (h : Nat.beq (kindN a) (kindN b) = true) : a = b := by
  cases a <;> cases b <;> first | rfl | cases h

inductive Cls where
  | mv (d : Option Tmp) (x : Operand)
  | bin (d : Option Tmp) (op : BinOp) (x y : Operand) (o : Oper)
  | gen (o : Oper)

def cls (o : Oper) : Cls :=
  match o.guard with
  | some _ => .gen o
  | none => match o.op with
    | .move x => .mv o.dst x
    | .assign x => .mv o.dst x
    | .binOp op _ x y _ => .bin o.dst op x y o
    | _ => .gen o

def clsL : List Oper → List Cls
  | [] => []
  | o :: l => cls o :: clsL l

def fbinV (op : BinOp) : V → V → Option V
  | .c false [.int k a], .c false [.int k' b] => match Nat.beq (kindN k) (kindN k') with
    | true => match fbin op k a b with | some r => some (.one r) | none => none
    | false => none
  | _, _ => none

def fbinO (P : Program) (tm : Tr V) (op : BinOp) (x y : Operand) : Option V :=
  match evO P tm x with
  | some u => match evO P tm y with | some v => fbinV op u v | none => none
  | none => none

def gen1 (F : Fns) (P : Program) (ops : Array Oper) (nt : Nat) (o : Oper) (tm : Tr V) (H : Tr AObj) (nx : Nat) : Option (Tr V × Tr AObj × Nat) :=
  match evGuard ops o tm with
  | some true => match (match isCall o.op with | true => evB F P o tm H nx | false => evS P o tm H nx) with
    | some (v, H', nx') => match putA nt tm o.dst v with
      | some tm' => some (tm', H', nx')
      | none => none
    | none => none
  | some false => match putA nt tm o.dst V.undef with
    | some tm' => some (tm', H, nx)
    | none => none
  | none => none

theorem evOps_gen {F : Fns} {P : Program} {ops : Array Oper} {nt : Nat} (o : Oper) (l : List Oper) (tm : Tr V) (H : Tr AObj) (nx : Nat) :
    evOps F P ops nt (o :: l) tm H nx = match gen1 F P ops nt o tm H nx with | some (tm', H', nx') => evOps F P ops nt l tm' H' nx' | none => none := by
  simp only [evOps, gen1]
  generalize evGuard ops o tm = g
  cases g with
  | none => rfl
  | some b =>
    cases b with
    | false => simp only; cases putA nt tm o.dst V.undef <;> rfl
    | true =>
      cases isCall o.op with
      | true =>
        simp only
        cases evB F P o tm H nx with
        | none => rfl
        | some q => obtain ⟨v, H', nx'⟩ := q; simp only; cases putA nt tm o.dst v <;> rfl
      | false =>
        simp only
        cases evS P o tm H nx with
        | none => rfl
        | some q => obtain ⟨v, H', nx'⟩ := q; simp only; cases putA nt tm o.dst v <;> rfl

def evOpsF (F : Fns) (P : Program) (ops : Array Oper) (nt : Nat) : List Cls → Tr V → Tr AObj → Nat → Option (Tr V × Tr AObj × Nat)
  | [], tm, H, nx => some (tm, H, nx)
  | c :: l, tm, H, nx => match c with
    | .mv d x => match evO P tm x with
      | some v => match putA nt tm d v with | some tm' => evOpsF F P ops nt l tm' H nx | none => none
      | none => none
    | .bin d op x y o => match fbinO P tm op x y with
      | some v => match putA nt tm d v with | some tm' => evOpsF F P ops nt l tm' H nx | none => none
      | none => match gen1 F P ops nt o tm H nx with | some (tm', H', nx') => evOpsF F P ops nt l tm' H' nx' | none => none
    | .gen o => match gen1 F P ops nt o tm H nx with | some (tm', H', nx') => evOpsF F P ops nt l tm' H' nx' | none => none

theorem evEq_int {P : Program} {H : Tr AObj} {t : TypeId} {k k' : IntKind} {a b : Int} : evEq P H t (.int k a) (.int k' b) = none := by
  unfold evEq
  split <;> first | rfl | (rename_i h1 h2; cases h1) | (rename_i h1; cases h1)

theorem gen1_bin {F : Fns} {P : Program} {ops : Array Oper} {nt : Nat} {o : Oper} {op : BinOp} {x y : Operand} {tm : Tr V} {H : Tr AObj} {nx : Nat} {v : V} {t yt : TypeId} (hg : o.guard = none) (hop : o.op = .binOp op t x y yt) (h : fbinO P tm op x y = some v) :
    gen1 F P ops nt o tm H nx = match putA nt tm o.dst v with | some tm' => some (tm', H, nx) | none => none := by
  obtain ⟨dst, op', type, pos, after, guard⟩ := o
  simp only at hg hop
  subst hg; subst hop
  unfold fbinO at h
  split at h
  · rename_i u hu
    split at h
    · rename_i w hw
      unfold fbinV at h
      split at h
      · rename_i k a k' b
        split at h
        · rename_i hk
          obtain rfl := kindN_inj hk
          split at h
          · rename_i r hr
            cases h
            have hp := evPure_bin (P := P) (dst := dst) (t := t) (yt := yt) (type := type) (pos := pos) (after := after) (guard := none) hu hw hr
            have hR : evR P ⟨dst, .binOp op t x y yt, type, pos, after, none⟩ tm H = some (.one r) := by
              cases op <;> simp only [evR] <;> first | exact hp | (unfold evBin; simp only [hu, hw, evEq_int]; exact hp)
            simp only [gen1, evGuard, isCall, evS, hR]
          · cases h
        · cases h
      · cases h
    · cases h
  · cases h

theorem evOpsF_eq {F : Fns} {P : Program} {ops : Array Oper} {nt : Nat} : ∀ (l : List Oper) (tm : Tr V) (H : Tr AObj) (nx : Nat), evOpsF F P ops nt (clsL l) tm H nx = evOps F P ops nt l tm H nx := by
  intro l
  induction l with
  | nil => intro tm H nx; rfl
  | cons o l ih =>
    intro tm H nx
    rw [evOps_gen]
    have hmv : ∀ x, o.guard = none → (o.op = .move x ∨ o.op = .assign x) → gen1 F P ops nt o tm H nx = match evO P tm x with | some v => (match putA nt tm o.dst v with | some tm' => some (tm', H, nx) | none => none) | none => none := by
      intro x hg hop
      obtain ⟨dst, op', type, pos, after, guard⟩ := o
      simp only at hg hop
      subst hg
      rcases hop with rfl | rfl <;> simp only [gen1, evGuard, isCall, evS, evR, evW] <;> cases evO P tm x <;> rfl
    simp only [clsL, cls]
    split
    · simp only [evOpsF]
      cases gen1 F P ops nt o tm H nx with
      | none => rfl
      | some q => obtain ⟨a, b, c⟩ := q; exact ih a b c
    · rename_i hg
      split
      · rename_i x hop
        rw [hmv x hg (.inl hop)]
        simp only [evOpsF]
        cases evO P tm x with
        | none => rfl
        | some v => simp only; cases putA nt tm o.dst v with
          | none => rfl
          | some tm' => exact ih tm' H nx
      · rename_i x hop
        rw [hmv x hg (.inr hop)]
        simp only [evOpsF]
        cases evO P tm x with
        | none => rfl
        | some v => simp only; cases putA nt tm o.dst v with
          | none => rfl
          | some tm' => exact ih tm' H nx
      · rename_i op t x y yt hop
        simp only [evOpsF]
        cases hf : fbinO P tm op x y with
        | none =>
          simp only
          cases gen1 F P ops nt o tm H nx with
          | none => rfl
          | some q => obtain ⟨a, b, c⟩ := q; exact ih a b c
        | some v =>
          rw [gen1_bin hg hop hf]
          simp only
          cases putA nt tm o.dst v with
          | none => rfl
          | some tm' => exact ih tm' H nx
      · simp only [evOpsF]
        cases gen1 F P ops nt o tm H nx with
        | none => rfl
        | some q => obtain ⟨a, b, c⟩ := q; exact ih a b c

end
end Go.Proofs.YtphpkalbbmlgoaaGreatDoor.Ev

namespace Go.Proofs.YtphpkalbbmlgoaaGreatDoor.Ev
open Go
noncomputable section

def fRegion (F : Fns) (P : Program) (ops : Array Oper) (draw : Bool) (nt : Nat) (tm : Tr V) (H : Tr AObj) (nx : Nat) (ds : List Nat) : Res :=
  match draw with
  | true => match evDraw F P ops nt tm H nx with
    | some (tm', H', nx') => some (.normal, tm', H', nx', ds)
    | none => none
  | false => match evOpsF F P ops nt (clsL ops.toList) tm H nx with
    | some (tm', H', nx') => some (.normal, tm', H', nx', ds)
    | none => none

def fSeq (F : Fns) (b : Code) (nt : Nat) (ro : Option Nat) : Res → Res
  | some (.normal, tm', H', nx', ds') => F.code b nt ro tm' H' nx' ds'
  | r => r

def fCond (F : Fns) (a b : Code) (nt : Nat) (ro : Option Nat) (tm : Tr V) (H : Tr AObj) (nx : Nat) (ds : List Nat) : Option Bool → Res
  | some true => F.code a nt ro tm H nx ds
  | some false => F.code b nt ro tm H nx ds
  | none => none

def fBlock (id : Nat) : Res → Res
  | some (.exit j, tm', H', nx', ds') => match Nat.beq j id with
    | true => some (.normal, tm', H', nx', ds')
    | false => some (.exit j, tm', H', nx', ds')
  | r => r

def stepCodeF (F : Fns) (P : Program) (c : Code) (nt : Nat) (ro : Option Nat) (tm : Tr V) (H : Tr AObj) (nx : Nat) (ds : List Nat) : Res :=
  match c with
  | .skip => some (.normal, tm, H, nx, ds)
  | .region _ ops draw => fRegion F P ops draw nt tm H nx ds
  | .seq a b => fSeq F b nt ro (F.code a nt ro tm H nx ds)
  | .cond x a b => fCond F a b nt ro tm H nx ds (evCond P tm x)
  | .block id b => fBlock id (F.code b nt ro tm H nx ds)
  | .loop b => fSeq F (.loop b) nt ro (F.code b nt ro tm H nx ds)
  | .exit id => some (.exit id, tm, H, nx, ds)
  | .ret => some (.ret, tm, H, nx, ds)
  | c => stepCode F P c nt ro tm H nx ds

theorem stepCodeF_eq (F : Fns) (P : Program) (c : Code) (nt : Nat) (ro : Option Nat) (tm : Tr V) (H : Tr AObj) (nx : Nat) (ds : List Nat) : stepCodeF F P c nt ro tm H nx ds = stepCode F P c nt ro tm H nx ds := by
  cases c <;> simp only [stepCodeF]
  case region id ops draw =>
    cases draw
    · simp only [fRegion, stepCode, evOpsF_eq]
      cases evOps F P ops nt ops.toList tm H nx <;> rfl
    · simp only [fRegion, stepCode]
      cases evDraw F P ops nt tm H nx <;> rfl
  case skip => rfl
  case exit => rfl
  case ret => rfl
  case seq a b =>
    simp only [stepCode]
    cases F.code a nt ro tm H nx ds with
    | none => rfl
    | some q => obtain ⟨ex, tm', H', nx', ds'⟩ := q; cases ex <;> rfl
  case cond x a b =>
    simp only [stepCode]
    cases evCond P tm x with
    | none => rfl
    | some q => cases q <;> rfl
  case block id b =>
    simp only [stepCode]
    cases F.code b nt ro tm H nx ds with
    | none => rfl
    | some q => obtain ⟨ex, tm', H', nx', ds'⟩ := q; cases ex <;> rfl
  case loop b =>
    simp only [stepCode]
    cases F.code b nt ro tm H nx ds with
    | none => rfl
    | some q => obtain ⟨ex, tm', H', nx', ds'⟩ := q; cases ex <;> rfl

end
end Go.Proofs.YtphpkalbbmlgoaaGreatDoor.Ev
