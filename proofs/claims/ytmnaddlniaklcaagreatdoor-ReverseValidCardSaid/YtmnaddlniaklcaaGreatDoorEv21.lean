/- An abstract interpreter of the model's code, twenty-first part: loops over functions, and what is asked of statements. -/
import Derived.Test.YtmnaddlniaklcaaGreatDoorEv20
namespace Go.Proofs.YtmnaddlniaklcaaGreatDoor.Ev
open Go

def exC : Ex → Exit
  | .normal => .normal
  | .exit i => .exit i
  | .goto l => .goto l
  | .ret => .ret

/-- The marks among the deferred calls. -/
def DR (η : Env) : List Nat → List Deferred → Prop
  | [], [] => True
  | d :: ds, x :: xs => (∃ D, η.blk d = some D ∧ x = { target := .collected D.1, args := #[] }) ∧ DR η ds xs
  | _, _ => False
theorem DR.mono {η η' : Env} (hle : η.le η') : ∀ {ds : List Nat} {xs : List Deferred}, DR η ds xs → DR η' ds xs
  | [], [], _ => trivial
  | [], _ :: _, h => h.elim
  | _ :: _, [], h => h.elim
  | _ :: _, _ :: _, ⟨⟨D, h1, h2⟩, h⟩ => ⟨⟨D, (hle.blk _ _ h1).1, h2⟩, h.mono hle⟩
/-- The round in whose frame the code runs. -/
def RO (η : Env) : Option Nat → Option Nat → Prop
  | none, none => True
  | some l, some L => ∃ β, η.blk l = some (L, β)
  | _, _ => False
theorem RO.mono {η η' : Env} (hle : η.le η') : ∀ {ro cro : Option Nat}, RO η ro cro → RO η' ro cro
  | none, none, _ => trivial
  | none, some _, h => h.elim
  | some _, none, h => h.elim
  | some _, some _, ⟨β, h⟩ => ⟨β, (hle.blk _ _ h).1⟩

def WpC (m : Nat) (F : Fence) (n : Nat) (P : Program) (c : Code) (Q : Exit → Act → World → Prop) (A : Act) (w : World) : Prop :=
  match c with
  | .loop b => Code.roundsIn F n P b Q m A w
  | c => c.wpIn F n P Q A w
theorem WpC.wp {m : Nat} {F : Fence} {n : Nat} {P : Program} {c : Code} {Q : Exit → Act → World → Prop} {A : Act} {w : World} (h : WpC m F n P c Q A w) : c.wpIn F n P Q A w := by
  cases c <;> first | exact h | exact wpIn_loop_rounds m h

/-- What is known where a statement begins. -/
structure Ctx (P : Program) (nt : Nat) (η : Env) (h : Hp) (w : World) (H : Tr AObj) (nx nx' : Nat) (tm : Tr V) (ds : List Nat) (ro : Option Nat) (A : Act) (cro : Option Nat) : Prop where
  pre : Pre η h w H.get nx nx'
  ra : RA η tm A.tmps
  sz : A.tmps.size = nt
  dr : DR η ds A.defers
  gl : η.glob P
  ro : RO η ro cro

def Ends (η : Env) (h : Hp) (w : World) (H H' : Tr AObj) (nx nx' : Nat) (tm' : Tr V) (ds' : List Nat) (nt : Nat) (Q : Act → World → Prop) : Prop :=
  ∀ η' w' A', Stp η h w H.get H'.get nx nx' η' w' → RA η' tm' A'.tmps → A'.tmps.size = nt → DR η' ds' A'.defers → Q A' w'

def CodeOk (P : Program) (m : Nat) (c : Code) (nt : Nat) (ro : Option Nat) (tm : Tr V) (H : Tr AObj) (nx : Nat) (ds : List Nat) (ex : Ex) (tm' : Tr V) (H' : Tr AObj) (nx' : Nat) (ds' : List Nat) : Prop :=
  Dm H.get H'.get nx nx' ∧ ∀ η h w A cro n Q, Ctx P nt η h w H nx nx' tm ds ro A cro → Ends η h w H H' nx nx' tm' ds' nt (Q (exC ex)) → WpC m (fe cro) n P c Q A w
def ScopeOk (P : Program) (m : Nat) (b r : Code) (nt : Nat) (ro : Option Nat) (tm : Tr V) (H : Tr AObj) (nx : Nat) (ds : List Nat) (ex : Ex) (tm' : Tr V) (H' : Tr AObj) (nx' : Nat) (ds' : List Nat) : Prop :=
  Dm H.get H'.get nx nx' ∧ ∀ η h w A cro n Q, Ctx P nt η h w H nx nx' tm ds ro A cro → Ends η h w H H' nx nx' tm' ds' nt (Q (exC ex)) → scopeIn (fe cro) n P b Q m r A w

structure FnsOk (P : Program) (F : Fns) (m : Nat) : Prop where
  ops : OpsOk P F
  code : ∀ c nt ro tm H nx ds ex tm' H' nx' ds', F.code c nt ro tm H nx ds = some (ex, tm', H', nx', ds') → CodeOk P m c nt ro tm H nx ds ex tm' H' nx' ds'
  scope : ∀ b r nt ro tm H nx ds ex tm' H' nx' ds', F.scope b r nt ro tm H nx ds = some (ex, tm', H', nx', ds') → ScopeOk P m b r nt ro tm H nx ds ex tm' H' nx' ds'

theorem Ctx.next {P : Program} {nt : Nat} {η : Env} {h : Hp} {w : World} {H : Tr AObj} {nx nx2 : Nat} {tm : Tr V} {ds : List Nat} {ro : Option Nat} {A : Act} {cro : Option Nat} (c : Ctx P nt η h w H nx nx2 tm ds ro A cro)
    {H1 : Tr AObj} {nx1 : Nat} {η1 : Env} {w1 : World} (d : Dm H.get H1.get nx nx1) (s : Stp η h w H.get H1.get nx nx1 η1 w1) {tm1 : Tr V} {ds1 : List Nat} {A1 : Act} (ra : RA η1 tm1 A1.tmps) (sz : A1.tmps.size = nt) (dr : DR η1 ds1 A1.defers) :
    Ctx P nt η1 (ovr h H.get H1.get nx nx1) w1 H1 nx1 nx2 tm1 ds1 ro A1 cro :=
  ⟨c.pre.next d s, ra, sz, dr, glob_mono c.gl s.le, c.ro.mono s.le⟩
theorem Ctx.less {P : Program} {nt : Nat} {η : Env} {h : Hp} {w : World} {H : Tr AObj} {nx nx1 nx2 : Nat} {tm : Tr V} {ds : List Nat} {ro : Option Nat} {A : Act} {cro : Option Nat} (c : Ctx P nt η h w H nx nx2 tm ds ro A cro) (hle : nx1 ≤ nx2) :
    Ctx P nt η h w H nx nx1 tm ds ro A cro := ⟨c.pre.less hle, c.ra, c.sz, c.dr, c.gl, c.ro⟩
theorem Ends.next {η : Env} {h : Hp} {w : World} {H H1 H2 : Tr AObj} {nx nx1 nx2 : Nat} {tm' : Tr V} {ds' : List Nat} {nt : Nat} {Q : Act → World → Prop} (e : Ends η h w H H2 nx nx2 tm' ds' nt Q) {η1 : Env} {w1 : World}
    (d1 : Dm H.get H1.get nx nx1) (d2 : Dm H1.get H2.get nx1 nx2) (s : Stp η h w H.get H1.get nx nx1 η1 w1) : Ends η1 (ovr h H.get H1.get nx nx1) w1 H1 H2 nx1 nx2 tm' ds' nt Q :=
  fun η' w' A' s' ra sz dr => e η' w' A' (Stp.trans d1 d2 s s') ra sz dr

/-! ### The record of a loop -/
theorem dm_loopSt {H H' : Tr AObj} {l : Nat} {st : LoopState} {pe : Option Code} (h : loopSt H l st pe = some H') (nx : Nat) : Dm H.get H'.get nx nx := by
  unfold loopSt at h
  split at h
  · rename_i hb; cases h; exact dm_set hb _ _
  · cases h

theorem loop_rec {η : Env} {h : Hp} {w : World} {H : Tr AObj} {nx nx' : Nat} (p : Pre η h w H.get nx nx') {l : Nat} {st : LoopState} {pe : Option Code} {tm : Tr V} {nt : Nat} {ps : Array Tmp} {assign body : Code} {df : Nat}
    (hl : H.get l = some (.loop st pe tm nt ps assign body df)) {L : Nat × Nat} (hL : η.blk l = some L) :
    ∃ f A D, w.heap[L.1]? = some (.loop ⟨st, pe, f, A, ps, assign, body, D⟩) ∧ RA η tm A ∧ A.size = nt ∧ ∃ β, η.blk df = some (D, β) := by
  obtain ⟨B, co, hB, hw, f, A, D, rfl, h1, h2, h3⟩ := p.rh.live l _ (p.ext l _ hl)
  obtain rfl : L = B := Option.some.inj (hL.symm.trans hB)
  exact ⟨f, A, D, hw, h1, h2, h3⟩

theorem loopSt_ok {P : Program} {η : Env} {h : Hp} {w : World} {H H' : Tr AObj} {nx : Nat} (p : Pre η h w H.get nx nx) {l : Nat} {st' : LoopState} {pe' : Option Code} (hs : loopSt H l st' pe' = some H') {L : Nat × Nat} (hL : η.blk l = some L) :
    ∃ r : Loop, w.heap[L.1]? = some (.loop r) ∧ (setObj L.1 (.loop { r with state := st', pending := pe' })).run P w = .ok () { w with heap := w.heap.setIfInBounds L.1 (.loop { r with state := st', pending := pe' }) } ∧
      Stp η h w H.get H'.get nx nx η { w with heap := w.heap.setIfInBounds L.1 (.loop { r with state := st', pending := pe' }) } := by
  unfold loopSt at hs
  split at hs
  · rename_i st pe tm nt ps assign body df hl
    cases hs
    obtain ⟨f, A, D, hw, h1, h2, h3⟩ := loop_rec p hl hL
    have hlt : L.1 < w.heap.size := (Array.getElem?_eq_some_iff.1 hw).1
    refine ⟨_, hw, by simp [setObj, Sem.run, hw], (Stp.set (w' := { w with heap := w.heap.setIfInBounds L.1 (.loop ⟨st', pe', f, A, ps, assign, body, D⟩) }) p hl hL (co' := .loop ⟨st', pe', f, A, ps, assign, body, D⟩) (o' := .loop st' pe' tm nt ps assign body df) ?_ ?_ rfl rfl rfl (by simp) ⟨f, A, D, rfl, h1, h2, h3⟩).2⟩
    · simp [hlt]
    · intro j hj; simp [Array.getElem?_setIfInBounds_ne (Ne.symm hj)]
  · cases hs

/-! ### Behind the function that was ranged over -/
theorem stepAfter_ok {P : Program} {F : Fns} {m : Nat} (hF : FnsOk P F m) {l nt : Nat} {ro : Option Nat} {tm : Tr V} {ds : List Nat} {v : V} {H2 : Tr AObj} {nx2 : Nat} {ex : Ex} {tm' : Tr V} {H' : Tr AObj} {nx' : Nat} {ds' : List Nat}
    (he : stepAfter F l nt ro tm ds (some (v, H2, nx2)) = some (ex, tm', H', nx', ds')) :
    Dm H2.get H'.get nx2 nx' ∧ ∀ η h w A cro n Q L, Ctx P nt η h w H2 nx2 nx' tm ds ro A cro → η.blk l = some L → Ends η h w H2 H' nx2 nx' tm' ds' nt (Q (exC ex)) →
      ∃ jump w4, (Instr.endLoop L.1).run P w = .ok jump w4 ∧ (match jump with | none => Q .normal A w4 | some c => c.wpIn (fe cro) n P Q A w4) := by
  unfold stepAfter at he
  simp only at he
  split at he
  · rename_i st pe tmL ntL ps assign body df hl
    have key : ∀ H3, loopSt H2 l .exhausted pe = some H3 → (match pe with | none => some (Ex.normal, tm, H3, nx2, ds) | some c => F.code c nt ro tm H3 nx2 ds) = some (ex, tm', H', nx', ds') → st ≠ .busy →
        Dm H2.get H'.get nx2 nx' ∧ ∀ η h w A cro n Q L, Ctx P nt η h w H2 nx2 nx' tm ds ro A cro → η.blk l = some L → Ends η h w H2 H' nx2 nx' tm' ds' nt (Q (exC ex)) →
          ∃ jump w4, (Instr.endLoop L.1).run P w = .ok jump w4 ∧ (match jump with | none => Q .normal A w4 | some c => c.wpIn (fe cro) n P Q A w4) := by
      intro H3 h3 hrest hst
      have d1 := dm_loopSt h3 nx2
      have run : ∀ {η : Env} {h : Hp} {w : World} {L : Nat × Nat}, Pre η h w H2.get nx2 nx2 → η.blk l = some L → ∃ w4, (Instr.endLoop L.1).run P w = .ok pe w4 ∧ Stp η h w H2.get H3.get nx2 nx2 η w4 := by
        intro η h w L p hL
        obtain ⟨f, A, D, hw, _, _, _⟩ := loop_rec p hl hL
        obtain ⟨r, hr, hset, hstp⟩ := loopSt_ok (P := P) p h3 hL
        rw [hw] at hr; cases hr
        refine ⟨_, ?_, hstp⟩
        have hg : (Instr.getLoop L.1).run P w = .ok ⟨st, pe, f, A, ps, assign, body, D⟩ w := by simp [Instr.getLoop, getObj, Sem.run, hw]
        have hb : ¬ ((st == LoopState.busy) = true) := by simpa using hst
        simp only [Instr.endLoop, Sem.run_bind, hg, Result.andThen_ok, if_neg hb, hset, Sem.run_pure]
      cases pe with
      | none =>
        cases hrest
        refine ⟨d1, fun η h w A cro n Q L c hL hQ => ?_⟩
        obtain ⟨w4, h1, h2⟩ := run c.pre hL
        exact ⟨none, w4, h1, hQ η w4 A h2 c.ra c.sz c.dr⟩
      | some cd =>
        obtain ⟨d2, h5⟩ := hF.code _ _ _ _ _ _ _ _ _ _ _ _ hrest
        refine ⟨d1.trans d2, fun η h w A cro n Q L c hL hQ => ?_⟩
        obtain ⟨w4, h1, h2⟩ := run (c.pre.less d2.le) hL
        refine ⟨some cd, w4, h1, (h5 η _ w4 A cro n Q (c.next d1 h2 c.ra c.sz c.dr) (hQ.next d1 d2 h2)).wp⟩
    split at he
    · cases he
    · rename_i hnb
      split at he
      · rename_i H3 h3
        refine key H3 h3 ?_ (fun e => hnb e)
        cases pe <;> exact he
      · cases he
  · cases he

end Go.Proofs.YtmnaddlniaklcaaGreatDoor.Ev
