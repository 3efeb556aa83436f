/- An abstract interpreter of the model's code, third part: operations that only read. -/
import Derived.Test.YtmnaddlniaklcaaGreatDoorEv2
import Derived.Laws.Cells
import Derived.Laws.CopyRow
namespace Go.Proofs.YtmnaddlniaklcaaGreatDoor.Ev
open Go
noncomputable section

/-! ### Rows of cells -/
def rd (t : Tr At) : Nat → Nat → Option (List At)
  | _, 0 => some []
  | i, n + 1 => match t.get i with
    | some a => match rd t (i + 1) n with | some l => some (a :: l) | none => none
    | none => none
def wr (t : Tr At) : Nat → List At → Tr At
  | _, [] => t
  | i, a :: l => wr (t.put (some a) i) (i + 1) l
def row (H : Tr AObj) (b o n : Nat) : Option (List At) :=
  match H.get b with
  | some (.cells _ m t) => bif Nat.ble (o + n) m then rd t o n else none
  | some (.lcells _ m _ t) => bif Nat.ble (o + n) m then rd t o n else none
  | _ => none

theorem concs_length {η : Env} : ∀ (l : List At) (vs : List Value), concs η l = some vs → vs.length = l.length := by
  intro l
  induction l with
  | nil => intro vs h; simp [concs] at h; subst h; rfl
  | cons a l ih =>
    intro vs h
    simp only [concs] at h
    cases ha : a.conc η with
    | none => simp [ha] at h
    | some v => cases hl : concs η l with
      | none => simp [ha, hl] at h
      | some ws => simp [ha, hl] at h; subst h; simp [ih ws hl]

theorem rd_cells {η : Env} {β m : Nat} {t : Tr At} {C : Array Value} (hC : Cells η β m t C) : ∀ (n i : Nat) (l : List At), i + n ≤ m → rd t i n = some l →
    ∃ vs, concs η l = some vs ∧ l.length = n ∧ ∀ j v, vs[j]? = some v → C[β + i + j]? = some v := by
  intro n
  induction n with
  | zero => intro i l hi h; simp [rd] at h; subst h; exact ⟨[], rfl, rfl, fun j v hj => by simp at hj⟩
  | succ n ih =>
    intro i l hi h
    simp only [rd] at h
    obtain ⟨a, v, h1, h2, h3⟩ := hC i (by omega)
    rw [h1] at h
    cases hr : rd t (i + 1) n with
    | none => simp [hr] at h
    | some l' =>
      simp [hr] at h; subst h
      obtain ⟨vs, h4, h5, h6⟩ := ih (i + 1) l' (by omega) hr
      refine ⟨v :: vs, by simp [concs, h2, h4], by simp [h5], fun j u hj => ?_⟩
      cases j with
      | zero => simp at hj; subst hj; exact h3
      | succ j => have := h6 j u (by simpa using hj); rw [← this]; congr 1; omega

/-- The block is a row of cells in the world. -/
structure Row (η : Env) (w : World) (b : Nat) (B : Nat × Nat) (C : Array Value) (E : Nat) : Prop where
  blk : η.blk b = some B
  heap : w.heap[B.1]? = some (.cells C E (0, 0))

theorem Row.cell {η : Env} {w : World} {b : Nat} {B : Nat × Nat} {C : Array Value} {E : Nat} (r : Row η w b B C E) (o : Nat) : w.cell? (adr B o) = C[B.2 + o]? := by
  simp [World.cell?, adr, r.heap]
theorem Row.frozen {η : Env} {w : World} {b : Nat} {B : Nat × Nat} {C : Array Value} {E : Nat} (r : Row η w b B C E) (o : Nat) : w.frozen? (adr B o) = false := by
  simp [World.frozen?, adr, r.heap]
theorem adr_add (B : Nat × Nat) (o j : Nat) : (adr B o).add j = adr B (o + j) := by
  unfold adr Addr.add; split
  · subst_vars; rfl
  · simp [Nat.add_assoc]

theorem row_ok {η : Env} {h : Hp} {w : World} {H : Tr AObj} (ext : ∀ b o, H.get b = some o → h b = some o) (rh : RH η h w) {b o n : Nat} {l : List At} (hr : row H b o n = some l) :
    ∃ B vs C E, Row η w b B C E ∧ concs η l = some vs ∧ l.length = n ∧ ∀ j v, vs[j]? = some v → w.cell? ((adr B o).add j) = some v := by
  unfold row at hr
  have key : ∀ (B : Nat × Nat) (C : Array Value) (E m : Nat) (t : Tr At), Row η w b B C E → Cells η B.2 m t C → (bif Nat.ble (o + n) m then rd t o n else none) = some l →
      ∃ B vs C E, Row η w b B C E ∧ concs η l = some vs ∧ l.length = n ∧ ∀ j v, vs[j]? = some v → w.cell? ((adr B o).add j) = some v := by
    intro B C E m t hrow hC hif
    cases hb : Nat.ble (o + n) m with
    | false => simp [hb] at hif
    | true =>
      simp [hb] at hif
      obtain ⟨vs, h4, h5, h6⟩ := rd_cells hC n o l (Nat.le_of_ble_eq_true hb) hif
      refine ⟨B, vs, C, E, hrow, h4, h5, fun j v hj => ?_⟩
      rw [adr_add, hrow.cell, ← h6 j v hj]; congr 1; omega
  cases ho : H.get b with
  | none => simp [ho] at hr
  | some ob =>
    obtain ⟨B, co, h1, h2, h3⟩ := rh.live b ob (ext b ob ho)
    cases ob with
    | cells E m t =>
      obtain ⟨C, rfl, hβ, hs, hC⟩ := h3
      simp only [ho] at hr
      exact key B C E m t ⟨h1, h2⟩ (by rw [hβ]; exact hC) hr
    | lcells E m s t =>
      obtain ⟨C, rfl, _, _, _, hC⟩ := h3
      simp only [ho] at hr
      exact key B C E m t ⟨h1, h2⟩ hC hr
    | _ => simp [ho] at hr

/-! ### Types -/
def aggD : TypeDesc → Bool
  | .struct _ | .array _ _ => true
  | _ => false
def tyAgg (P : Program) (t : TypeId) : Option (Bool × Nat) :=
  match P.underlying t, P.info? t with
  | some d, some i => some (aggD d, i.size)
  | _, _ => none

theorem run_und {P : Program} {t : TypeId} {d : TypeDesc} (h : P.underlying t = some d) (w : World) : (underlying t).run P w = .ok d w := run_underlying h w
theorem run_ti {P : Program} {t : TypeId} {i : TypeInfo} (h : P.info? t = some i) (w : World) : (typeInfo t).run P w = .ok i w := by
  simp [typeInfo, program, Sem.run, h]
theorem run_size {P : Program} {t : TypeId} {i : TypeInfo} (h : P.info? t = some i) (w : World) : (sizeOf t).run P w = .ok i.size w := by
  simp [sizeOf, run_ti h]
theorem run_agg {P : Program} {t : TypeId} {d : TypeDesc} (h : P.underlying t = some d) (w : World) : (isAgg t).run P w = .ok (aggD d) w := by
  simp only [isAgg, Sem.run_bind, run_und h, Result.andThen_ok]
  cases d <;> rfl
theorem tyAgg_ok {P : Program} {t : TypeId} {g : Bool} {n : Nat} (h : tyAgg P t = some (g, n)) (w : World) : (isAgg t).run P w = .ok g w ∧ (sizeOf t).run P w = .ok n w := by
  unfold tyAgg at h
  cases hu : P.underlying t with
  | none => simp [hu] at h
  | some d => cases hi : P.info? t with
    | none => simp [hu, hi] at h
    | some i => simp [hu, hi] at h; obtain ⟨rfl, rfl⟩ := h; exact ⟨run_agg hu w, run_size hi w⟩

/-! ### Operands -/
theorem evO_ok {P : Program} {η : Env} {tm : Tr V} {A : Act} (ra : RA η tm A.tmps) (hg : η.glob P) {x : Operand} {v : V} (h : evO P tm x = some v) : v.conc η = some (A.eval x) := by
  cases x with
  | tmp t => exact ra t v h
  | const c => exact absV_conc η h
  | global g =>
    simp only [evO] at h
    cases hb : Nat.blt g P.globals.size with
    | false => simp [hb] at h
    | true =>
      simp [hb] at h; subst h
      have hlt : g < P.globals.size := Nat.le_of_ble_eq_true hb
      simp [V.conc, comp, concs, At.conc, hg g hlt, Act.eval, adr]
  | func f => simp only [evO] at h; cases h; simp [V.conc, comp, concs, At.conc, ptrs, fsts, Act.eval]

theorem one_conc {η : Env} {a : At} {v : Value} : (V.one a).conc η = some v ↔ a.conc η = some v := by
  simp only [V.conc, comp, concs]
  cases ha : a.conc η <;> simp

/-- One operand, known to be one cell. -/
theorem evO_one {P : Program} {η : Env} {tm : Tr V} {A : Act} (ra : RA η tm A.tmps) (hg : η.glob P) {x : Operand} {a : At} (h : evO P tm x = some (.one a)) : a.conc η = some (A.eval x) :=
  one_conc.1 (evO_ok ra hg h)

/-! ### Without memory -/
def rho0 (P : Program) (tm : Tr V) (x : Operand) : Value :=
  match evO P tm x with
  | some v => match v.conc Env.void with | some cv => cv | none => Go.undef
  | none => Go.undef
def flatO (P : Program) (tm : Tr V) (x : Operand) : Bool :=
  match evO P tm x with
  | some v => match v.conc Env.void with | some _ => true | none => false
  | none => false
def flatL (P : Program) (tm : Tr V) : List Operand → Bool
  | [] => true
  | x :: l => match flatO P tm x with | true => flatL P tm l | false => false
def isSelect : Op → Bool
  | .select .. => true
  | _ => false
def evPure (P : Program) (o : Oper) (tm : Tr V) : Option V :=
  match isSelect o.op, flatL P tm o.op.operands.toList with
  | false, true => match runA P (execOp (rho0 P tm) o) with
    | some (.value v) => absV v
    | _ => none
  | _, _ => none

theorem flatL_mem {P : Program} {tm : Tr V} : ∀ (l : List Operand), flatL P tm l = true → ∀ x ∈ l, flatO P tm x = true := by
  intro l
  induction l with
  | nil => intro _ x hx; cases hx
  | cons y l ih =>
    intro h x hx
    simp only [flatL] at h
    cases hy : flatO P tm y with
    | false => simp [hy] at h
    | true =>
      simp only [hy] at h
      rcases List.mem_cons.1 hx with rfl | hx
      · exact hy
      · exact ih h x hx

theorem flatO_eval {P : Program} {η : Env} {tm : Tr V} {A : Act} (ra : RA η tm A.tmps) (hg : η.glob P) {x : Operand} (h : flatO P tm x = true) : A.eval x = rho0 P tm x := by
  unfold flatO at h
  unfold rho0
  cases hv : evO P tm x with
  | none => simp [hv] at h
  | some v =>
    simp only [hv] at h ⊢
    cases hc : v.conc Env.void with
    | none => simp [hc] at h
    | some cv =>
      have h1 := evO_ok ra hg hv
      rw [V.conc_mono (Env.void_le η) hc] at h1
      exact (Option.some.inj h1).symm

theorem evPure_ok {P : Program} {o : Oper} {tm : Tr V} {v : V} (h : evPure P o tm = some v) {η : Env} {A : Act} (ra : RA η tm A.tmps) (hg : η.glob P) (w : World) :
    ∃ cv, v.conc η = some cv ∧ (execOp A.eval o).run P w = .ok (.value cv) w := by
  unfold evPure at h
  split at h
  · rename_i hsel hfl
    split at h
    · rename_i cv hrun
      refine ⟨cv, absV_conc η h, ?_⟩
      have he : execOp A.eval o = execOp (rho0 P tm) o := execOp_congr o (fun cs b e => by rw [e] at hsel; simp [isSelect] at hsel)
        (fun x hx => flatO_eval ra hg (flatL_mem _ hfl x (by simpa using hx)))
      rw [he]
      exact runA_run hrun w
    · cases h
  · cases h

/-! ### The operations -/
/-- What is asked of an operation that only reads. -/
def Reads1 (P : Program) (o : Oper) (tm : Tr V) (H : Tr AObj) (v : V) : Prop :=
  ∀ (η : Env) (h : Hp) (w : World) (A : Act), (∀ b o, H.get b = some o → h b = some o) → RH η h w → RA η tm A.tmps → η.glob P →
    ∃ cv, v.conc η = some cv ∧ (execOp A.eval o).run P w = .ok (.value cv) w

theorem run_v {P : Program} {s : Sem Value} {w w' : World} {v : Value} (h : s.run P w = .ok v w') : (do pure (Next.value (← s)) : Sem Next).run P w = .ok (.value v) w' := by
  simp [h]

def evLoad (P : Program) (H : Tr AObj) (t : TypeId) (a : At) : Option V :=
  match a with
  | .ptr b o => match tyAgg P t with
    | some (true, n) => match row H b o n with | some l => some (.c true l) | none => none
    | some (false, _) => match row H b o 1 with | some l => some (.c false l) | none => none
    | none => none
  | _ => none

theorem evLoad_ok {P : Program} {H : Tr AObj} {t : TypeId} {a : At} {v : V} (h : evLoad P H t a = some v) {η : Env} {hp : Hp} {w : World} (ext : ∀ b o, H.get b = some o → hp b = some o) (rh : RH η hp w)
    {ca : Value} (ha : a.conc η = some ca) : ∃ cv, v.conc η = some cv ∧ (Instr.loadAt t ca).run P w = .ok cv w := by
  unfold evLoad at h
  cases a <;> simp only at h <;> try (cases h; done)
  rename_i b o
  cases ht : tyAgg P t with
  | none => simp [ht] at h
  | some p =>
    obtain ⟨g, n⟩ := p
    have hty := tyAgg_ok ht w
    cases g with
    | true =>
      simp only [ht] at h
      cases hr : row H b o n with
      | none => simp [hr] at h
      | some l =>
        simp [hr] at h; subst h
        obtain ⟨B, vs, C, E, hrow, hvs, hlen, hcell⟩ := row_ok ext rh hr
        simp only [At.conc, hrow.blk] at ha
        cases ha
        refine ⟨.agg ⟨vs⟩, by simp [V.conc, comp, hvs], ?_⟩
        have hl := run_loadCells_list (P := P) (w := w) (adr B o) vs hcell
        rw [concs_length _ _ hvs, hlen] at hl
        simp only [Instr.loadAt, Instr.sureAddr, loadVar, Sem.run_bind, Sem.run_pure, Result.andThen_ok, hty.1, hty.2, if_true, hl]
    | false =>
      simp only [ht] at h
      cases hr : row H b o 1 with
      | none => simp [hr] at h
      | some l =>
        simp [hr] at h; subst h
        obtain ⟨B, vs, C, E, hrow, hvs, hlen, hcell⟩ := row_ok ext rh hr
        simp only [At.conc, hrow.blk] at ha
        cases ha
        have hvl := concs_length _ _ hvs
        rw [hlen] at hvl
        match vs, hvl with
        | [u], _ =>
          have hc := hcell 0 u rfl
          rw [adr_add, Nat.add_zero] at hc
          refine ⟨u, by simp [V.conc, comp, hvs], ?_⟩
          simp only [Instr.loadAt, Instr.sureAddr, loadVar, Sem.run_bind, Sem.run_pure, Result.andThen_ok, hty.1, Bool.false_eq_true, if_false]
          simp [load, Sem.run, hc]

end
end Go.Proofs.YtmnaddlniaklcaaGreatDoor.Ev
