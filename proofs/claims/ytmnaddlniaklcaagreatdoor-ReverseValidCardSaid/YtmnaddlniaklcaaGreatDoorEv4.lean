/- An abstract interpreter of the model's code, fourth part: more operations that only read. -/
import Derived.Test.YtmnaddlniaklcaaGreatDoorEv3
namespace Go.Proofs.YtmnaddlniaklcaaGreatDoor.Ev
open Go
noncomputable section

theorem add_zero_adr (B : Nat × Nat) (o : Nat) : (adr B o).add 0 = adr B o := by rw [adr_add]; rfl

/-! ### Addresses of fields and elements -/
def evFieldAddr (P : Program) (s : TypeId) (a : At) (f : Nat) : Option V :=
  match a with
  | .ptr b o => match P.underlying s with
    | some (.struct fs) => match fs.toList[f]? with
      | some fd => match P.info? fd.type with
        | some i => bif Nat.beq i.size 0 then none else some (.one (.ptr b (o + fd.offset)))
        | none => none
      | none => none
    | _ => none
  | _ => none

theorem evFieldAddr_ok {P : Program} {s : TypeId} {a : At} {f : Nat} {v : V} (h : evFieldAddr P s a f = some v) {η : Env} {w : World} {ca : Value} (ha : a.conc η = some ca) :
    ∃ cv, v.conc η = some cv ∧ (Instr.fieldAt s ca f).run P w = .ok cv w := by
  unfold evFieldAddr at h
  cases a <;> simp only at h <;> try (cases h; done)
  rename_i b o
  split at h
  · rename_i fs hu
    split at h
    · rename_i fd hf
      split at h
      · rename_i i hi
        cases hz : Nat.beq i.size 0 with
        | true => simp [hz] at h
        | false =>
          simp [hz] at h; subst h
          simp only [At.conc] at ha
          cases hb : η.blk b with
          | none => simp [hb] at ha
          | some B =>
            simp [hb] at ha; subst ha
            have hne : ¬ i.size = 0 := fun e => by rw [e] at hz; simp at hz
            have hf' : fs[f]? = some fd := by rw [← Array.getElem?_toList]; exact hf
            refine ⟨.pointer (some (adr B (o + fd.offset))), by simp [V.conc, comp, concs, At.conc, hb], ?_⟩
            simp only [Instr.fieldAt, Sem.run_bind, run_und hu, Result.andThen_ok, hf', Instr.sureAddr, Sem.run_pure, fieldPlace, run_size hi, if_neg hne, adr_add]
      · cases h
    · cases h
  · cases h

def evIndexAddr (P : Program) (t : TypeId) (x i : At) : Option V :=
  match i with
  | .int _ n => match n with
    | .ofNat k => match P.underlying t, x with
      | some (.slice e), .sl b o l _ => match P.info? e with
        | some ie => bif Nat.blt k l then some (.one (.ptr b (o + k * ie.size))) else none
        | none => none
      | some (.slice e), .slx b o l _ => match P.info? e with
        | some ie => bif Nat.blt k l then some (.one (.ptr b (o + k * ie.size))) else none
        | none => none
      | some (.array l e), .ptr b o => match P.info? e with
        | some ie => bif Nat.blt k l then some (.one (.ptr b (o + k * ie.size))) else none
        | none => none
      | _, _ => none
    | _ => none
  | _ => none

theorem blt_lt {a b : Nat} (h : Nat.blt a b = true) : a < b := Nat.le_of_ble_eq_true h

theorem evIndexAddr_ok {P : Program} {t : TypeId} {x i : At} {v : V} (h : evIndexAddr P t x i = some v) {η : Env} {w : World} {cx ci : Value} (hx : x.conc η = some cx) (hi : i.conc η = some ci) :
    ∃ cv, v.conc η = some cv ∧ (Instr.indexAt t cx ci).run P w = .ok cv w := by
  unfold evIndexAddr at h
  cases i <;> simp only at h <;> try (cases h; done)
  rename_i kd n
  simp only [At.conc] at hi
  cases hi
  cases n with
  | negSucc m => simp at h
  | ofNat k =>
    simp only at h
    have fin : ∀ (B : Nat × Nat) (b o l e : Nat) (ie : TypeInfo), η.blk b = some B → P.info? e = some ie → (bif Nat.blt k l then some (V.one (.ptr b (o + k * ie.size))) else none) = some v →
        (v.conc η = some (.pointer (some ((adr B o).add (k * ie.size)))) ∧ k < l) := by
      intro B b o l e ie hb he hif
      cases hlt : Nat.blt k l with
      | false => simp [hlt] at hif
      | true => simp [hlt] at hif; subst hif; exact ⟨by rw [adr_add]; simp [V.conc, comp, concs, At.conc, hb], blt_lt hlt⟩
    split at h
    · rename_i e b o l c hu
      split at h
      · rename_i ie he
        simp only [At.conc] at hx
        cases hb : η.blk b with
        | none => simp [hb] at hx
        | some B =>
          simp [hb] at hx; subst hx
          obtain ⟨hv, hlt⟩ := fin B b o l e ie hb he h
          refine ⟨_, hv, ?_⟩
          have h1 : (0 : Int) ≤ Int.ofNat k ∧ Int.ofNat k < (l : Int) := ⟨Int.natCast_nonneg k, by exact Int.ofNat_lt.2 hlt⟩
          simp [Instr.indexAt, asIntOf, run_und hu, run_size he, hlt]
      · cases h
    · rename_i e b o l c hu
      split at h
      · rename_i ie he
        simp only [At.conc] at hx
        cases hb : η.blk b with
        | none => simp [hb] at hx
        | some B =>
          simp [hb] at hx; subst hx
          obtain ⟨hv, hlt⟩ := fin B b o l e ie hb he h
          refine ⟨_, hv, ?_⟩
          simp [Instr.indexAt, asIntOf, run_und hu, run_size he, hlt]
      · cases h
    · rename_i l e b o hu
      split at h
      · rename_i ie he
        simp only [At.conc] at hx
        cases hb : η.blk b with
        | none => simp [hb] at hx
        | some B =>
          simp [hb] at hx; subst hx
          obtain ⟨hv, hlt⟩ := fin B b o l e ie hb he h
          refine ⟨_, hv, ?_⟩
          simp [Instr.indexAt, asIntOf, run_und hu, run_size he, hlt, Instr.sureAddr]
      · cases h
    · cases h

/-! ### Parts of a value -/
def evField (P : Program) (t : TypeId) (v : V) (f : Nat) : Option V :=
  match v with
  | .c true l => match P.underlying t with
    | some (.struct fs) => match fs.toList[f]? with
      | some fd => match tyAgg P fd.type with
        | some (true, n) => some (.c true ((l.drop fd.offset).take n))
        | some (false, _) => match l.drop fd.offset with | a :: _ => some (.one a) | [] => none
        | none => none
      | none => none
    | _ => none
  | _ => none

theorem concs_drop {η : Env} : ∀ (l : List At) (vs : List Value) (k : Nat), concs η l = some vs → concs η (l.drop k) = some (vs.drop k) := by
  intro l
  induction l with
  | nil => intro vs k h; simp [concs] at h; subst h; simp [concs]
  | cons a l ih =>
    intro vs k h
    simp only [concs] at h
    cases ha : a.conc η with
    | none => simp [ha] at h
    | some v => cases hl : concs η l with
      | none => simp [ha, hl] at h
      | some ws =>
        simp [ha, hl] at h; subst h
        cases k with
        | zero => simp [concs, ha, hl]
        | succ k => simpa using ih ws k hl
theorem concs_take {η : Env} : ∀ (l : List At) (vs : List Value) (k : Nat), concs η l = some vs → concs η (l.take k) = some (vs.take k) := by
  intro l
  induction l with
  | nil => intro vs k h; simp [concs] at h; subst h; simp [concs]
  | cons a l ih =>
    intro vs k h
    simp only [concs] at h
    cases ha : a.conc η with
    | none => simp [ha] at h
    | some v => cases hl : concs η l with
      | none => simp [ha, hl] at h
      | some ws =>
        simp [ha, hl] at h; subst h
        cases k with
        | zero => simp [concs]
        | succ k => simp [concs, ha, ih ws k hl]
theorem concs_append {η : Env} : ∀ (l m : List At) (vs us : List Value), concs η l = some vs → concs η m = some us → concs η (l ++ m) = some (vs ++ us) := by
  intro l
  induction l with
  | nil => intro m vs us h h'; simp [concs] at h; subst h; simpa using h'
  | cons a l ih =>
    intro m vs us h h'
    simp only [concs] at h
    cases ha : a.conc η with
    | none => simp [ha] at h
    | some v => cases hl : concs η l with
      | none => simp [ha, hl] at h
      | some ws => simp [ha, hl] at h; subst h; simp [concs, ha, ih m ws us hl h']
theorem concs_get {η : Env} : ∀ (l : List At) (vs : List Value), concs η l = some vs → ∀ (j : Nat) (a : At), l[j]? = some a → ∃ v, vs[j]? = some v ∧ a.conc η = some v := by
  intro l
  induction l with
  | nil => intro vs h j a hj; simp at hj
  | cons b l ih =>
    intro vs h j a hj
    simp only [concs] at h
    cases hb : b.conc η with
    | none => simp [hb] at h
    | some v => cases hl : concs η l with
      | none => simp [hb, hl] at h
      | some ws =>
        simp [hb, hl] at h; subst h
        cases j with
        | zero => simp at hj; subst hj; exact ⟨v, rfl, hb⟩
        | succ j => simpa using ih ws hl j a (by simpa using hj)

theorem agg_conc {η : Env} {l : List At} {cv : Value} (h : (V.c true l).conc η = some cv) : ∃ vs, concs η l = some vs ∧ cv = .agg ⟨vs⟩ := by
  simp only [V.conc, comp] at h
  cases hl : concs η l with
  | none => simp [hl] at h
  | some vs => simp [hl] at h; exact ⟨vs, rfl, h.symm⟩

theorem evField_ok {P : Program} {t : TypeId} {x : V} {f : Nat} {v : V} (h : evField P t x f = some v) {η : Env} {w : World} {cx : Value} (hx : x.conc η = some cx) :
    ∃ cv, v.conc η = some cv ∧ (Instr.field t cx f).run P w = .ok cv w := by
  unfold evField at h
  split at h
  · rename_i l
    obtain ⟨vs, hvs, rfl⟩ := agg_conc hx
    split at h
    · rename_i fs hu
      split at h
      · rename_i fd hf
        have hf' : fs[f]? = some fd := by rw [← Array.getElem?_toList]; exact hf
        split at h
        · rename_i n ht
          have hty := tyAgg_ok ht w
          cases h
          refine ⟨.agg ⟨(vs.drop fd.offset).take n⟩, by simp [V.conc, comp, concs_take _ _ n (concs_drop _ _ fd.offset hvs)], ?_⟩
          simp [Instr.field, run_und hu, hf', asAgg, part, hty.1, hty.2, List.extract_eq_take_drop]
        · rename_i n ht
          have hty := tyAgg_ok ht w
          split at h
          · rename_i a l' hd
            cases h
            have hdr := concs_drop l vs fd.offset hvs
            rw [hd] at hdr
            simp only [concs] at hdr
            cases ha : a.conc η with
            | none => simp [ha] at hdr
            | some u => cases hl' : concs η l' with
              | none => simp [ha, hl'] at hdr
              | some ws =>
                simp [ha, hl'] at hdr
                have hg : vs[fd.offset]? = some u := by
                  have := congrArg (fun l => l[0]?) hdr
                  simp at this; exact this.symm
                refine ⟨u, one_conc.2 ha, ?_⟩
                simp [Instr.field, run_und hu, hf', asAgg, part, hty.1, hg]
          · cases h
        · cases h
      · cases h
    · cases h
  · cases h

def evExtract (v : V) (i : Nat) : Option V :=
  match v with
  | .tup l => match l[i]? with | some (g, m) => some (.c g m) | none => none
  | _ => none
theorem comps_get {η : Env} : ∀ (l : List (Bool × List At)) (vs : List Value), comps η l = some vs → ∀ (j : Nat) (a : Bool × List At), l[j]? = some a → ∃ v, vs[j]? = some v ∧ comp η a.1 a.2 = some v := by
  intro l
  induction l with
  | nil => intro vs h j a hj; simp at hj
  | cons b l ih =>
    obtain ⟨g, m⟩ := b
    intro vs h j a hj
    simp only [comps] at h
    cases hb : comp η g m with
    | none => simp [hb] at h
    | some v => cases hl : comps η l with
      | none => simp [hb, hl] at h
      | some ws =>
        simp [hb, hl] at h; subst h
        cases j with
        | zero => simp at hj; subst hj; exact ⟨v, rfl, hb⟩
        | succ j => simpa using ih ws hl j a (by simpa using hj)
theorem evExtract_ok {P : Program} {x : V} {i : Nat} {v : V} (h : evExtract x i = some v) {η : Env} {w : World} {cx : Value} (hx : x.conc η = some cx) :
    ∃ cv, v.conc η = some cv ∧ (Instr.extract cx i).run P w = .ok cv w := by
  unfold evExtract at h
  split at h
  · rename_i l
    simp only [V.conc] at hx
    cases hl : comps η l with
    | none => simp [hl] at hx
    | some vs =>
      simp [hl] at hx; subst hx
      split at h
      · rename_i g m hj
        cases h
        obtain ⟨u, h1, h2⟩ := comps_get l vs hl i (g, m) hj
        exact ⟨u, h2, by simp [Instr.extract, h1]⟩
      · cases h
  · cases h

/-! ### Functions -/
def capsOf : List V → Option (List (Nat × Nat))
  | [] => some []
  | .c false [.ptr b o] :: l => match capsOf l with | some r => some ((b, o) :: r) | none => none
  | _ => none
def evOs (P : Program) (tm : Tr V) : List Operand → Option (List V)
  | [] => some []
  | x :: l => match evO P tm x with
    | some v => match evOs P tm l with | some r => some (v :: r) | none => none
    | none => none
/-- Values, one by one. -/
def VL (η : Env) : List V → List Value → Prop
  | [], [] => True
  | v :: l, c :: m => v.conc η = some c ∧ VL η l m
  | _, _ => False
theorem evOs_ok {P : Program} {η : Env} {tm : Tr V} {A : Act} (ra : RA η tm A.tmps) (hg : η.glob P) : ∀ (l : List Operand) (vs : List V), evOs P tm l = some vs → VL η vs (l.map A.eval) := by
  intro l
  induction l with
  | nil => intro vs h; simp [evOs] at h; subst h; trivial
  | cons x l ih =>
    intro vs h
    simp only [evOs] at h
    cases hx : evO P tm x with
    | none => simp [hx] at h
    | some v => cases hl : evOs P tm l with
      | none => simp [hx, hl] at h
      | some r => simp [hx, hl] at h; subst h; exact ⟨evO_ok ra hg hx, ih r hl⟩
theorem capsOf_ok {η : Env} : ∀ (vs : List V) (l : List (Nat × Nat)) (cs : List Value), capsOf vs = some l → VL η vs cs → ptrs η l = some cs := by
  intro vs
  induction vs with
  | nil =>
    intro l cs h hv
    cases cs with
    | nil => simp [capsOf] at h; subst h; rfl
    | cons _ _ => exact hv.elim
  | cons v vs ih =>
    intro l cs h hv
    cases cs with
    | nil => exact hv.elim
    | cons c cs =>
      obtain ⟨h1, h2⟩ := hv
      unfold capsOf at h
      split at h
      · rename_i e; cases e
      · rename_i b o l' e
        cases e
        cases hr : capsOf vs with
        | none => simp [hr] at h
        | some r =>
          simp [hr] at h; subst h
          have h3 := one_conc.1 h1
          simp only [At.conc] at h3
          cases hb : η.blk b with
          | none => simp [hb] at h3
          | some B => simp [hb] at h3; simp [ptrs, hb, ih r cs hr h2, h3]
      · cases h

/-- Values that are bound. -/
def flats : List V → Option (List Fst)
  | [] => some []
  | v :: l => match flats l with
    | some r => match v with
      | .c false [.ptr b o] => some (.ptr b o :: r)
      | _ => match v.conc Env.void with
        | some c => some (.val c :: r)
        | none => none
    | none => none
theorem flats_ok {η : Env} : ∀ (vs : List V) (l : List Fst) (cs : List Value), flats vs = some l → VL η vs cs → fsts η l = some cs := by
  intro vs
  induction vs with
  | nil =>
    intro l cs h hv
    cases cs with
    | nil => simp [flats] at h; subst h; rfl
    | cons _ _ => exact hv.elim
  | cons v vs ih =>
    intro l cs h hv
    cases cs with
    | nil => exact hv.elim
    | cons c cs =>
      obtain ⟨h1, h2⟩ := hv
      simp only [flats] at h
      cases hr : flats vs with
      | none => simp [hr] at h
      | some r =>
        simp only [hr] at h
        have h3 := ih r cs hr h2
        split at h
        · rename_i b o
          cases h
          have h4 := one_conc.1 h1
          simp only [At.conc] at h4
          cases hb : η.blk b with
          | none => simp [hb] at h4
          | some B => simp [hb] at h4; simp [fsts, hb, h3, h4]
        · split at h
          · rename_i c' hc
            cases h
            have := V.conc_mono (Env.void_le η) hc
            rw [h1] at this; cases this
            simp [fsts, h3]
          · cases h

def evMakeFunc (P : Program) (tm : Tr V) (fn : Fn) (first captured : Array Operand) : Option V :=
  match fn with
  | .func f => match evOs P tm first.toList, evOs P tm captured.toList with
    | some us, some vs => match flats us, capsOf vs with | some l0, some l => some (.one (.fn f l0 l)) | _, _ => none
    | _, _ => none
  | _ => none
theorem evMakeFunc_ok {P : Program} {η : Env} {tm : Tr V} {A : Act} (ra : RA η tm A.tmps) (hg : η.glob P) {fn : Fn} {first captured : Array Operand} {v : V} (h : evMakeFunc P tm fn first captured = some v) (w : World) :
    ∃ cv, v.conc η = some cv ∧ (Instr.makeFunc fn (first.map A.eval) (captured.map A.eval)).run P w = .ok cv w := by
  unfold evMakeFunc at h
  split at h
  · rename_i f
    split at h
    · rename_i us vs hus hvs
      split at h
      · rename_i l0 l hl0 hl
        cases h
        have h1 := capsOf_ok vs l _ hl (evOs_ok ra hg _ _ hvs)
        have h2 := flats_ok us l0 _ hl0 (evOs_ok ra hg _ _ hus)
        refine ⟨.func (.func f) ⟨first.toList.map A.eval⟩ ⟨captured.toList.map A.eval⟩, by rw [one_conc]; simp only [At.conc, h1, h2], ?_⟩
        have e2 : captured.map A.eval = ⟨captured.toList.map A.eval⟩ := by apply Array.ext'; simp
        have e1 : first.map A.eval = ⟨first.toList.map A.eval⟩ := by apply Array.ext'; simp
        rw [e1, e2]; simp [Instr.makeFunc]
      · cases h
    · cases h
  · cases h

/-! ### Comparisons of addresses -/
def isRow : Option AObj → Bool
  | some (.cells _ _ _) | some (.lcells _ _ _ _) => true
  | _ => false
def evEq (P : Program) (H : Tr AObj) (t : TypeId) (a b : At) : Option Bool :=
  match P.underlying t, a, b with
  | some (.pointer e), .ptr x o, .ptr y o' => match P.info? e with
    | some i => match Nat.beq i.size 0, isRow (H.get x), isRow (H.get y) with
      | false, true, true => bif Nat.beq x y then some (Nat.beq o o') else some false
      | _, _, _ => none
    | none => none
  | some (.pointer _), .ptr _ _, .nilp => some false
  | some (.pointer _), .nilp, .ptr _ _ => some false
  | some (.slice _), .sl _ _ _ _, .nils => some false
  | some (.slice _), .slx _ _ _ _, .nils => some false
  | some (.slice _), .emp _, .nils => some false
  | some (.slice _), .nils, .sl _ _ _ _ => some false
  | some (.slice _), .nils, .slx _ _ _ _ => some false
  | some (.slice _), .nils, .emp _ => some false
  | some (.map _ _), .map _, .nilm => some false
  | some (.map _ _), .nilm, .map _ => some false
  | some (.func _ _ _), .fn _ _ _, .nilf => some false
  | some (.func _ _ _), .nilf, .fn _ _ _ => some false
  | _, _, _ => none

theorem isRow_ok {η : Env} {h : Hp} {w : World} {H : Tr AObj} (ext : ∀ b o, H.get b = some o → h b = some o) (rh : RH η h w) {b : Nat} (hr : isRow (H.get b) = true) :
    h b ≠ none ∧ ∃ B C E, Row η w b B C E := by
  cases ho : H.get b with
  | none => simp [ho, isRow] at hr
  | some ob =>
    have hb := ext b ob ho
    obtain ⟨B, co, h1, h2, h3⟩ := rh.live b ob hb
    refine ⟨by rw [hb]; simp, ?_⟩
    cases ob with
    | cells E m t => obtain ⟨C, rfl, _⟩ := h3; exact ⟨B, C, E, h1, h2⟩
    | lcells E m s t => obtain ⟨C, rfl, _⟩ := h3; exact ⟨B, C, E, h1, h2⟩
    | _ => simp [ho, isRow] at hr

/-- A slice that is not nil. -/
def SlV (v : Value) : Prop := ∃ a n c, v = .slice (some a) n c
theorem conc_sl {η : Env} {b o n c : Nat} {v : Value} (h : (At.sl b o n c).conc η = some v) : ∃ B, η.blk b = some B ∧ v = .slice (some (adr B o)) n c := by
  simp only [At.conc] at h
  cases hb : η.blk b with
  | none => simp [hb] at h
  | some B => simp [hb] at h; exact ⟨B, rfl, h.symm⟩
theorem conc_slx {η : Env} {b o n e : Nat} {v : Value} (h : (At.slx b o n e).conc η = some v) : ∃ B, η.blk b = some B ∧ v = .slice (some (adr B o)) n (η.cap b - e) := by
  simp only [At.conc] at h
  cases hb : η.blk b with
  | none => simp [hb] at h
  | some B => simp [hb] at h; exact ⟨B, rfl, h.symm⟩
theorem conc_ptr {η : Env} {b o : Nat} {v : Value} (h : (At.ptr b o).conc η = some v) : ∃ B, η.blk b = some B ∧ v = .pointer (some (adr B o)) := by
  simp only [At.conc] at h
  cases hb : η.blk b with
  | none => simp [hb] at h
  | some B => simp [hb] at h; exact ⟨B, rfl, h.symm⟩
theorem conc_emp {η : Env} {i : Nat} {v : Value} (h : (At.emp i).conc η = some v) : ∃ a c, η.em i = some (a, c) ∧ v = .slice (some a) 0 c := by
  simp only [At.conc] at h
  cases hb : η.em i with
  | none => simp [hb] at h
  | some B => obtain ⟨a, c⟩ := B; simp [hb] at h; exact ⟨a, c, rfl, h.symm⟩
theorem conc_map {η : Env} {b : Nat} {v : Value} (h : (At.map b).conc η = some v) : ∃ B, η.blk b = some B ∧ v = .map (some B.1) := by
  simp only [At.conc] at h
  cases hb : η.blk b with
  | none => simp [hb] at h
  | some B => simp [hb] at h; exact ⟨B, rfl, h.symm⟩
theorem conc_fn {η : Env} {f : FuncId} {l0 : List Fst} {l : List (Nat × Nat)} {v : Value} (h : (At.fn f l0 l).conc η = some v) : ∃ uv : List Value × List Value, (fsts η l0 = some uv.1 ∧ ptrs η l = some uv.2) ∧ v = .func (.func f) ⟨uv.1⟩ ⟨uv.2⟩ := by
  simp only [At.conc] at h
  cases hb : ptrs η l with
  | none => simp [hb] at h
  | some B => cases hb' : fsts η l0 with
    | none => simp [hb, hb'] at h
    | some U => simp [hb, hb'] at h; exact ⟨(U, B), ⟨rfl, rfl⟩, h.symm⟩

theorem run_sameAddr {η : Env} {h : Hp} {w : World} (rh : RH η h w) (P : Program) {x y o o' : Nat} {B B' : Nat × Nat} {C C' : Array Value} {E E' : Nat} (hx : h x ≠ none) (hy : h y ≠ none)
    (rx : Row η w x B C E) (ry : Row η w y B' C' E') : (sameAddr (adr B o) (adr B' o')).run P w = .ok (if x = y then Nat.beq o o' else false) w := by
  by_cases e : x = y
  · subst e
    have : B = B' := Option.some.inj (rx.blk.symm.trans ry.blk)
    subst this
    simp only [sameAddr, adr, beq_self_eq_true, if_true, Sem.run_pure]
    congr 1
    rw [Bool.eq_iff_iff]
    simp
  · have hne : B.1 ≠ B'.1 := fun hc => e (rh.inj x y B B' hx hy rx.blk ry.blk hc)
    have f1 := rx.frozen o
    have f2 := ry.frozen o'
    have s1 : w.shape? B.1 = some (E, C.size) := by simp [World.shape?, rx.heap]
    have s2 : w.shape? B'.1 = some (E', C'.size) := by simp [World.shape?, ry.heap]
    have f3 : w.frozen? { block := B.1, off := C.size } = false := by simp [World.frozen?, rx.heap]
    have f4 : w.frozen? { block := B'.1, off := C'.size } = false := by simp [World.frozen?, ry.heap]
    simp only [adr] at f1 f2
    simp [sameAddr, adr, hne, frozen, Sem.run, f1, f2, noView, viewAt, shape, s1, s2, mayBeOne, stringish, f3, f4, e]

theorem evEq_ok {P : Program} {H : Tr AObj} {t : TypeId} {a b : At} {r : Bool} (h : evEq P H t a b = some r) {η : Env} {hp : Hp} {w : World} (ext : ∀ b o, H.get b = some o → hp b = some o) (rh : RH η hp w)
    {ca cb : Value} (ha : a.conc η = some ca) (hb : b.conc η = some cb) : (Op.equal t ca cb).run P w = .ok r w ∧ (∀ x y op, (eqGuard op t x y ca cb).run P w = .ok () w) ∧ (binOp .eql t ca cb = do pure (.bool (← Op.equal t ca cb))) ∧ (binOp .neq t ca cb = do pure (.bool (!(← Op.equal t ca cb)))) := by
  have hd : (∀ d, (Op.equalIn (d + 1) t ca cb).run P w = .ok r w) → (Op.equal t ca cb).run P w = .ok r w := fun hk => hk 9999
  unfold evEq at h
  split at h
  · rename_i e x o y o' hu
    obtain ⟨B, hB, rfl⟩ := conc_ptr ha
    obtain ⟨B', hB', rfl⟩ := conc_ptr hb
    refine ⟨?_, fun _ _ op => by cases op <;> rfl, rfl, rfl⟩
    split at h
    · rename_i i hi
      split at h
      · rename_i hz hrx hry
        obtain ⟨hx, Bx, C, E, rx⟩ := isRow_ok ext rh hrx
        obtain ⟨hy, By, C', E', ry⟩ := isRow_ok ext rh hry
        obtain rfl : B = Bx := Option.some.inj (hB.symm.trans rx.blk)
        obtain rfl : B' = By := Option.some.inj (hB'.symm.trans ry.blk)
        have hne : ¬ i.size = 0 := fun e => by rw [e] at hz; simp at hz
        have hs := run_sameAddr rh P (o := o) (o' := o') hx hy rx ry
        have hr : r = (if x = y then Nat.beq o o' else false) := by
          by_cases e : x = y
          · subst e; simp at h; simp [← h]
          · have : Nat.beq x y = false := by cases hb : Nat.beq x y with | false => rfl | true => exact absurd (Nat.eq_of_beq_eq_true hb) e
            simp [this] at h; simp [e, h]
        refine hd fun d => ?_
        rw [hr, ← hs]
        simp only [Op.equalIn, Sem.run_bind, run_und hu, Result.andThen_ok, run_size hi, ne_eq, hne, not_false_eq_true, if_true]
      · cases h
    · cases h
  all_goals first
    | (cases h; done)
    | (rename_i hu
       first
       | (obtain ⟨B, hB, rfl⟩ := conc_ptr ha; cases hb)
       | (obtain ⟨B, hB, rfl⟩ := conc_ptr hb; cases ha)
       | (obtain ⟨B, hB, rfl⟩ := conc_sl ha; cases hb)
       | (obtain ⟨B, hB, rfl⟩ := conc_sl hb; cases ha)
       | (obtain ⟨B, hB, rfl⟩ := conc_slx ha; cases hb)
       | (obtain ⟨B, hB, rfl⟩ := conc_slx hb; cases ha)
       | (obtain ⟨B, c, hB, rfl⟩ := conc_emp ha; cases hb)
       | (obtain ⟨B, c, hB, rfl⟩ := conc_emp hb; cases ha)
       | (obtain ⟨B, hB, rfl⟩ := conc_map ha; cases hb)
       | (obtain ⟨B, hB, rfl⟩ := conc_map hb; cases ha)
       | (obtain ⟨B, hB, rfl⟩ := conc_fn ha; cases hb)
       | (obtain ⟨B, hB, rfl⟩ := conc_fn hb; cases ha)
       cases h
       exact ⟨hd fun d => by simp [Op.equalIn, run_und hu], fun _ _ op => by cases op <;> rfl, rfl, rfl⟩)

end
end Go.Proofs.YtmnaddlniaklcaaGreatDoor.Ev
