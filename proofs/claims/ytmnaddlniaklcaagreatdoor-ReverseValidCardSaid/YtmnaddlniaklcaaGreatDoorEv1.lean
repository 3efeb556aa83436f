/- An abstract interpreter of the model's code, first part: tries, abstract values, what they stand for. No program in sight. -/
import Derived.WalkKit
import Derived.Laws.CopyRow
import Derived.KernelRfl
import Derived.CallsIn
import Derived.OrdersIn
import Derived.RangeFuncIn
import Derived.LoopNIn
namespace Go.Proofs.YtmnaddlniaklcaaGreatDoor.Ev
open Go
set_option linter.unusedVariables false

/-! ### Tries -/
inductive I8 where
  | i0
  | i1
  | i2
  | i3
  | i4
  | i5
  | i6
  | i7
  deriving DecidableEq
def i8 : Nat → I8
  | 0 => .i0 | 1 => .i1 | 2 => .i2 | 3 => .i3 | 4 => .i4 | 5 => .i5 | 6 => .i6 | _ => .i7
theorem i8_inj {a b : Nat} (ha : a < 8) (hb : b < 8) (h : i8 a = i8 b) : a = b := by
  rcases (show a = 0 ∨ a = 1 ∨ a = 2 ∨ a = 3 ∨ a = 4 ∨ a = 5 ∨ a = 6 ∨ a = 7 by omega) with rfl | rfl | rfl | rfl | rfl | rfl | rfl | rfl <;>
  rcases (show b = 0 ∨ b = 1 ∨ b = 2 ∨ b = 3 ∨ b = 4 ∨ b = 5 ∨ b = 6 ∨ b = 7 by omega) with rfl | rfl | rfl | rfl | rfl | rfl | rfl | rfl <;> first | rfl | cases h

inductive Tr (α : Type) where
  | nil
  | node (v : Option α) (c0 c1 c2 c3 c4 c5 c6 c7 : Tr α)

/-- The way to a key. -/
noncomputable def pathF (f : Nat) : Nat → List I8 :=
  Nat.rec (motive := fun _ => Nat → List I8) (fun _ => []) (fun _ ih k => Nat.rec (motive := fun _ => List I8) [] (fun k' _ => i8 (Nat.mod k' 8) :: ih (Nat.div k' 8)) k) f
noncomputable def path (k : Nat) : List I8 := pathF (Nat.succ k) k

--EV-HOT
abbrev Tr.GT (α : Type) : Type := Tr α → Option α
abbrev Tr.PT (α : Type) : Type := Tr α → Tr α
noncomputable def Tr.top {α : Type} (v : Option α) (_x0 _x1 _x2 _x3 _x4 _x5 _x6 _x7 : Tr α) (_y0 _y1 _y2 _y3 _y4 _y5 _y6 _y7 : Option α) : Option α := v
noncomputable def Tr.getNil {α : Type} (t : Tr α) : Option α := Tr.rec (motive := fun _ => Option α) none Tr.top t
noncomputable def Tr.pick {α : Type} (ih : Tr.GT α) (d : I8) (_v : Option α) (c0 c1 c2 c3 c4 c5 c6 c7 : Tr α) (_y0 _y1 _y2 _y3 _y4 _y5 _y6 _y7 : Option α) : Option α := ih (I8.rec (motive := fun _ => Tr α) c0 c1 c2 c3 c4 c5 c6 c7 d)
noncomputable def Tr.getCons {α : Type} (d : I8) (_p : List I8) (ih : Tr.GT α) (t : Tr α) : Option α := Tr.rec (motive := fun _ => Option α) none (Tr.pick ih d) t
noncomputable def Tr.getP {α : Type} (p : List I8) : Tr α → Option α := List.rec (motive := fun _ => Tr.GT α) Tr.getNil Tr.getCons p
noncomputable def Tr.get {α : Type} (t : Tr α) (k : Nat) : Option α := Tr.getP (path k) t
abbrev Tr.ST (α : Type) : Type := Option α → Tr α → Tr α → Tr α → Tr α → Tr α → Tr α → Tr α → Tr α → Tr α → Tr α
noncomputable def Tr.set0 {α : Type} (v : Option α) (y c0 c1 c2 c3 c4 c5 c6 c7 : Tr α) : Tr α := .node v y c1 c2 c3 c4 c5 c6 c7
noncomputable def Tr.set1 {α : Type} (v : Option α) (y c0 c1 c2 c3 c4 c5 c6 c7 : Tr α) : Tr α := .node v c0 y c2 c3 c4 c5 c6 c7
noncomputable def Tr.set2 {α : Type} (v : Option α) (y c0 c1 c2 c3 c4 c5 c6 c7 : Tr α) : Tr α := .node v c0 c1 y c3 c4 c5 c6 c7
noncomputable def Tr.set3 {α : Type} (v : Option α) (y c0 c1 c2 c3 c4 c5 c6 c7 : Tr α) : Tr α := .node v c0 c1 c2 y c4 c5 c6 c7
noncomputable def Tr.set4 {α : Type} (v : Option α) (y c0 c1 c2 c3 c4 c5 c6 c7 : Tr α) : Tr α := .node v c0 c1 c2 c3 y c5 c6 c7
noncomputable def Tr.set5 {α : Type} (v : Option α) (y c0 c1 c2 c3 c4 c5 c6 c7 : Tr α) : Tr α := .node v c0 c1 c2 c3 c4 y c6 c7
noncomputable def Tr.set6 {α : Type} (v : Option α) (y c0 c1 c2 c3 c4 c5 c6 c7 : Tr α) : Tr α := .node v c0 c1 c2 c3 c4 c5 y c7
noncomputable def Tr.set7 {α : Type} (v : Option α) (y c0 c1 c2 c3 c4 c5 c6 c7 : Tr α) : Tr α := .node v c0 c1 c2 c3 c4 c5 c6 y
noncomputable def Tr.setC {α : Type} (d : I8) : Option α → Tr α → Tr α → Tr α → Tr α → Tr α → Tr α → Tr α → Tr α → Tr α → Tr α :=
  I8.rec (motive := fun _ => Tr.ST α) Tr.set0 Tr.set1 Tr.set2 Tr.set3 Tr.set4 Tr.set5 Tr.set6 Tr.set7 d
noncomputable def Tr.over {α : Type} (x : Option α) (_v : Option α) (c0 c1 c2 c3 c4 c5 c6 c7 : Tr α) (_y0 _y1 _y2 _y3 _y4 _y5 _y6 _y7 : Tr α) : Tr α := .node x c0 c1 c2 c3 c4 c5 c6 c7
noncomputable def Tr.putNil {α : Type} (x : Option α) (t : Tr α) : Tr α := Tr.rec (motive := fun _ => Tr α) (.node x .nil .nil .nil .nil .nil .nil .nil .nil) (Tr.over x) t
noncomputable def Tr.putIn {α : Type} (d : I8) (ih : Tr.PT α) (v : Option α) (c0 c1 c2 c3 c4 c5 c6 c7 : Tr α) (_y0 _y1 _y2 _y3 _y4 _y5 _y6 _y7 : Tr α) : Tr α := Tr.setC d v (ih (I8.rec (motive := fun _ => Tr α) c0 c1 c2 c3 c4 c5 c6 c7 d)) c0 c1 c2 c3 c4 c5 c6 c7
noncomputable def Tr.putCons {α : Type} (d : I8) (_p : List I8) (ih : Tr.PT α) (t : Tr α) : Tr α :=
  Tr.rec (motive := fun _ => Tr α) (Tr.setC d none (ih .nil) .nil .nil .nil .nil .nil .nil .nil .nil) (Tr.putIn d ih) t
noncomputable def Tr.putP {α : Type} (x : Option α) (p : List I8) : Tr α → Tr α := List.rec (motive := fun _ => Tr.PT α) (Tr.putNil x) Tr.putCons p
noncomputable def Tr.put {α : Type} (t : Tr α) (x : Option α) (k : Nat) : Tr α := Tr.putP x (path k) t
--EV-END

section tries
variable {α : Type}
theorem pathF_inj : ∀ (f k j : Nat), k < f → ∀ g, j < g → pathF f k = pathF g j → k = j := by
  intro f
  induction f with
  | zero => intro k j h; omega
  | succ f ih =>
    intro k j hk g hj h
    cases g with
    | zero => omega
    | succ g =>
      cases k with
      | zero =>
        cases j with
        | zero => rfl
        | succ j => exact absurd h (by show ([] : List I8) ≠ i8 (j % 8) :: pathF g (j / 8); simp)
      | succ k =>
        cases j with
        | zero => exact absurd h (by show i8 (k % 8) :: pathF f (k / 8) ≠ ([] : List I8); simp)
        | succ j =>
          have h' : i8 (k % 8) :: pathF f (k / 8) = i8 (j % 8) :: pathF g (j / 8) := h
          injection h' with h1 h2
          have e1 := i8_inj (Nat.mod_lt _ (by decide)) (Nat.mod_lt _ (by decide)) h1
          have e2 := ih (k / 8) (j / 8) (by omega) g (by omega) h2
          omega
theorem path_inj {k j : Nat} (h : path k = path j) : k = j := pathF_inj _ _ _ (Nat.lt_succ_self k) _ (Nat.lt_succ_self j) h

theorem Tr.get_nil (k : Nat) : (Tr.nil : Tr α).get k = none := by
  unfold Tr.get
  cases path k <;> rfl
theorem Tr.getP_nil (p : List I8) : Tr.getP p (Tr.nil : Tr α) = none := by cases p <;> rfl
theorem Tr.getP_setC (d e : I8) (v : Option α) (c0 c1 c2 c3 c4 c5 c6 c7 y : Tr α) (p : List I8) :
    Tr.getP (e :: p) (Tr.setC d v y c0 c1 c2 c3 c4 c5 c6 c7) = if e = d then Tr.getP p y else Tr.getP (e :: p) (.node v c0 c1 c2 c3 c4 c5 c6 c7) := by
  cases d <;> cases e <;> rfl
theorem Tr.getP_putP (x : Option α) : ∀ (q p : List I8) (t : Tr α), Tr.getP p (Tr.putP x q t) = if p = q then x else Tr.getP p t := by
  intro q
  induction q with
  | nil =>
    intro p t
    cases t with
    | nil => cases p with
      | nil => rfl
      | cons e p => rw [if_neg (by simp), Tr.getP_nil]; show Tr.getP p (I8.rec (motive := fun _ => Tr α) .nil .nil .nil .nil .nil .nil .nil .nil e) = none; cases e <;> exact Tr.getP_nil p
    | node v c0 c1 c2 c3 c4 c5 c6 c7 => cases p with
      | nil => rfl
      | cons e p => rw [if_neg (by simp)]; rfl
  | cons d q ih =>
    intro p t
    cases t with
    | nil =>
      show Tr.getP p (Tr.setC d none (Tr.putP x q .nil) .nil .nil .nil .nil .nil .nil .nil .nil) = _
      cases p with
      | nil => cases d <;> rfl
      | cons e p =>
        rw [Tr.getP_setC]
        by_cases h : e = d
        · subst h
          rw [if_pos rfl, ih]
          by_cases hp : p = q
          · subst hp; simp
          · rw [if_neg hp, if_neg (by simpa using hp), Tr.getP_nil, Tr.getP_nil]
        · rw [if_neg h, if_neg (by simp [h]), Tr.getP_nil]
          show Tr.getP p (I8.rec (motive := fun _ => Tr α) .nil .nil .nil .nil .nil .nil .nil .nil e) = none
          cases e <;> exact Tr.getP_nil p
    | node v c0 c1 c2 c3 c4 c5 c6 c7 =>
      show Tr.getP p (Tr.setC d v (Tr.putP x q (I8.rec (motive := fun _ => Tr α) c0 c1 c2 c3 c4 c5 c6 c7 d)) c0 c1 c2 c3 c4 c5 c6 c7) = _
      cases p with
      | nil => cases d <;> rfl
      | cons e p =>
        rw [Tr.getP_setC]
        by_cases h : e = d
        · subst h
          rw [if_pos rfl, ih]
          by_cases hp : p = q
          · subst hp; simp
          · rw [if_neg hp, if_neg (by simpa using hp)]; rfl
        · rw [if_neg h, if_neg (by simp [h])]
theorem Tr.get_put (x : Option α) (t : Tr α) (k j : Nat) : (t.put x k).get j = if j = k then x else t.get j := by
  unfold Tr.get Tr.put
  rw [Tr.getP_putP]
  by_cases h : j = k
  · subst h; simp
  · rw [if_neg h, if_neg (fun e => h (path_inj e))]
theorem Tr.get_put_same (t : Tr α) (x : Option α) (k : Nat) : (t.put x k).get k = x := by rw [Tr.get_put, if_pos rfl]
theorem Tr.get_put_other (t : Tr α) (x : Option α) {k j : Nat} (h : j ≠ k) : (t.put x k).get j = t.get j := by rw [Tr.get_put, if_neg h]
end tries

/-! ### Abstract values -/
/-- A value that is bound to a function: one that names no block, or a pointer. -/
inductive Fst where
  | val (v : Value)
  | ptr (b o : Nat)
  deriving Inhabited

/-- The value of one cell. Blocks are named by abstract numbers. -/
inductive At where
  | bool (b : Bool)
  | int (k : IntKind) (n : Int)
  | str (l : List UInt8)
  | ptr (b o : Nat)
  | nilp
  /-- a slice of known capacity -/
  | sl (b o n c : Nat)
  /-- a slice that reaches to the end of a block of unknown length; e elements of the block's row lie ahead of it -/
  | slx (b o n e : Nat)
  | nils
  | map (b : Nat)
  | nilm
  /-- a function, the values that are bound to it, and the variables that it captures -/
  | fn (f : FuncId) (first : List Fst) (caps : List (Nat × Nat))
  | yld (l : Nat)
  | nilf
  | nili
  /-- a value of which nothing is known -/
  | opq (i : Nat)
  /-- an empty slice that is not nil, wherever it lies -/
  | emp (i : Nat)
  deriving Inhabited

/-- A value: its cells (false: one that is no struct and no array), or a tuple. -/
inductive V where
  | c (g : Bool) (l : List At)
  | tup (l : List (Bool × List At))
  deriving Inhabited

abbrev V.one (a : At) : V := .c false [a]
abbrev V.undef : V := .tup []

/-- What the abstract names stand for. -/
structure Env where
  blk : Nat → Option (Nat × Nat)
  cap : Nat → Nat
  unk : Nat → Option Value
  /-- the empty slices -/
  em : Nat → Option (Addr × Nat)

structure Env.le (η η' : Env) : Prop where
  blk : ∀ b B, η.blk b = some B → η'.blk b = some B ∧ η'.cap b = η.cap b
  unk : ∀ i v, η.unk i = some v → η'.unk i = some v
  em : ∀ i v, η.em i = some v → η'.em i = some v

theorem Env.le.refl (η : Env) : η.le η := ⟨fun _ _ h => ⟨h, rfl⟩, fun _ _ h => h, fun _ _ h => h⟩
theorem Env.le.trans {η η' η'' : Env} (h : η.le η') (h' : η'.le η'') : η.le η'' :=
  ⟨fun b B hb => ⟨(h'.blk b B (h.blk b B hb).1).1, ((h'.blk b B (h.blk b B hb).1).2).trans (h.blk b B hb).2⟩, fun i v hi => h'.unk i v (h.unk i v hi), fun i v hi => h'.em i v (h.em i v hi)⟩

def adr (B : Nat × Nat) (o : Nat) : Addr := ⟨B.1, B.2 + o, none⟩

def ptrs (η : Env) : List (Nat × Nat) → Option (List Value)
  | [] => some []
  | (b, o) :: l => match η.blk b, ptrs η l with
    | some B, some vs => some (.pointer (some (adr B o)) :: vs)
    | _, _ => none

def fsts (η : Env) : List Fst → Option (List Value)
  | [] => some []
  | .val v :: l => match fsts η l with | some vs => some (v :: vs) | none => none
  | .ptr b o :: l => match η.blk b, fsts η l with
    | some B, some vs => some (.pointer (some (adr B o)) :: vs)
    | _, _ => none

def At.conc (η : Env) : At → Option Value
  | .bool b => some (.bool b)
  | .int k n => some (.int k n)
  | .str l => some (.string ⟨⟨l⟩⟩)
  | .ptr b o => match η.blk b with | some B => some (.pointer (some (adr B o))) | none => none
  | .nilp => some (.pointer none)
  | .sl b o n c => match η.blk b with | some B => some (.slice (some (adr B o)) n c) | none => none
  | .slx b o n e => match η.blk b with | some B => some (.slice (some (adr B o)) n (η.cap b - e)) | none => none
  | .nils => some (.slice none 0 0)
  | .map b => match η.blk b with | some B => some (.map (some B.1)) | none => none
  | .nilm => some (.map none)
  | .fn f first caps => match fsts η first, ptrs η caps with | some us, some vs => some (.func (.func f) ⟨us⟩ ⟨vs⟩) | _, _ => none
  | .yld l => match η.blk l with | some B => some (.func (.yield B.1) #[] #[]) | none => none
  | .nilf => some .nilFunc
  | .nili => some .nilIface
  | .opq i => match η.unk i with | some v => (match v.oneCell' with | true => some v | false => none) | none => none
  | .emp i => match η.em i with | some (a, c) => some (.slice (some a) 0 c) | none => none

def concs (η : Env) : List At → Option (List Value)
  | [] => some []
  | a :: l => match a.conc η, concs η l with
    | some v, some vs => some (v :: vs)
    | _, _ => none

def comp (η : Env) (g : Bool) (l : List At) : Option Value :=
  match g, concs η l with
  | true, some vs => some (.agg ⟨vs⟩)
  | false, some [v] => some v
  | _, _ => none

def comps (η : Env) : List (Bool × List At) → Option (List Value)
  | [] => some []
  | (g, l) :: r => match comp η g l, comps η r with
    | some v, some vs => some (v :: vs)
    | _, _ => none

def V.conc (η : Env) : V → Option Value
  | .c g l => comp η g l
  | .tup l => match comps η l with | some vs => some (.tuple ⟨vs⟩) | none => none

theorem ptrs_mono {η η' : Env} (h : η.le η') : ∀ (l : List (Nat × Nat)) (vs : List Value), ptrs η l = some vs → ptrs η' l = some vs := by
  intro l
  induction l with
  | nil => intro vs hv; exact hv
  | cons p l ih =>
    obtain ⟨b, o⟩ := p
    intro vs hv
    simp only [ptrs] at hv ⊢
    cases hb : η.blk b with
    | none => simp [hb] at hv
    | some B =>
      cases hl : ptrs η l with
      | none => simp [hb, hl] at hv
      | some ws => rw [(h.blk b B hb).1, ih ws hl]; simpa [hb, hl] using hv

theorem fsts_mono {η η' : Env} (h : η.le η') : ∀ (l : List Fst) (vs : List Value), fsts η l = some vs → fsts η' l = some vs := by
  intro l
  induction l with
  | nil => intro vs hv; exact hv
  | cons p l ih =>
    intro vs hv
    cases p with
    | val v =>
      simp only [fsts] at hv ⊢
      cases hl : fsts η l with
      | none => simp [hl] at hv
      | some ws => rw [ih ws hl]; simpa [hl] using hv
    | ptr b o =>
      simp only [fsts] at hv ⊢
      cases hb : η.blk b with
      | none => simp [hb] at hv
      | some B =>
        cases hl : fsts η l with
        | none => simp [hb, hl] at hv
        | some ws => rw [(h.blk b B hb).1, ih ws hl]; simpa [hb, hl] using hv

theorem At.conc_mono {η η' : Env} (h : η.le η') {a : At} {v : Value} (ha : a.conc η = some v) : a.conc η' = some v := by
  cases a <;> simp only [At.conc] at ha ⊢ <;> try exact ha
  case ptr b o => cases hb : η.blk b with
    | none => simp [hb] at ha
    | some B => rw [(h.blk b B hb).1]; simpa [hb] using ha
  case sl b o n c => cases hb : η.blk b with
    | none => simp [hb] at ha
    | some B => rw [(h.blk b B hb).1]; simpa [hb] using ha
  case slx b o n e => cases hb : η.blk b with
    | none => simp [hb] at ha
    | some B => rw [(h.blk b B hb).1, (h.blk b B hb).2]; simpa [hb] using ha
  case map b => cases hb : η.blk b with
    | none => simp [hb] at ha
    | some B => rw [(h.blk b B hb).1]; simpa [hb] using ha
  case fn f first caps => cases hl : ptrs η caps with
    | none => simp [hl] at ha
    | some ws => cases hl' : fsts η first with
      | none => simp [hl, hl'] at ha
      | some us => rw [ptrs_mono h _ _ hl, fsts_mono h _ _ hl']; simpa [hl, hl'] using ha
  case yld l => cases hb : η.blk l with
    | none => simp [hb] at ha
    | some B => rw [(h.blk l B hb).1]; simpa [hb] using ha
  case opq i => cases hb : η.unk i with
    | none => simp [hb] at ha
    | some u => rw [h.unk i u hb]; rw [hb] at ha; exact ha
  case emp i => cases hb : η.em i with
    | none => simp [hb] at ha
    | some B => rw [h.em i B hb]; simpa [hb] using ha

theorem At.conc_one {η : Env} {a : At} {v : Value} (ha : a.conc η = some v) : v.oneCell' = true := by
  cases a <;> simp only [At.conc] at ha
  case opq i =>
    split at ha
    · rename_i u hu
      cases ho : u.oneCell' with
      | true => simp [ho] at ha; subst ha; exact ho
      | false => simp [ho] at ha
    · cases ha
  all_goals first
    | (cases ha; rfl)
    | (split at ha <;> cases ha <;> rfl)

theorem concs_mono {η η' : Env} (h : η.le η') : ∀ (l : List At) (vs : List Value), concs η l = some vs → concs η' l = some vs := by
  intro l
  induction l with
  | nil => intro vs hv; exact hv
  | cons a l ih =>
    intro vs hv
    simp only [concs] at hv ⊢
    cases ha : a.conc η with
    | none => simp [ha] at hv
    | some v => cases hl : concs η l with
      | none => simp [ha, hl] at hv
      | some ws => rw [At.conc_mono h ha, ih ws hl]; simpa [ha, hl] using hv

theorem comp_mono {η η' : Env} (h : η.le η') {g : Bool} {l : List At} {v : Value} (hv : comp η g l = some v) : comp η' g l = some v := by
  unfold comp at hv ⊢
  cases hl : concs η l with
  | none => cases g <;> simp [hl] at hv
  | some ws => rw [concs_mono h _ _ hl]; rw [hl] at hv; exact hv

theorem comps_mono {η η' : Env} (h : η.le η') : ∀ (l : List (Bool × List At)) (vs : List Value), comps η l = some vs → comps η' l = some vs := by
  intro l
  induction l with
  | nil => intro vs hv; exact hv
  | cons p l ih =>
    obtain ⟨g, m⟩ := p
    intro vs hv
    simp only [comps] at hv ⊢
    cases ha : comp η g m with
    | none => simp [ha] at hv
    | some v => cases hl : comps η l with
      | none => simp [ha, hl] at hv
      | some ws => rw [comp_mono h ha, ih ws hl]; simpa [ha, hl] using hv

theorem V.conc_mono {η η' : Env} (h : η.le η') {a : V} {v : Value} (ha : a.conc η = some v) : a.conc η' = some v := by
  cases a with
  | c g l => exact comp_mono h ha
  | tup l =>
    simp only [V.conc] at ha ⊢
    cases hl : comps η l with
    | none => simp [hl] at ha
    | some ws => rw [comps_mono h _ _ hl]; rw [hl] at ha; exact ha

/-- Nothing is named. -/
def Env.void : Env := ⟨fun _ => .none, fun _ => 0, fun _ => .none, fun _ => .none⟩
theorem Env.void_le (η : Env) : Env.void.le η := ⟨fun _ _ h => by simp [Env.void] at h, fun _ _ h => by simp [Env.void] at h, fun _ _ h => by simp [Env.void] at h⟩

/-! ### Values that name no block, read as abstract ones -/
def absAt : Value → Option At
  | .bool b => some (.bool b)
  | .int k n => some (.int k n)
  | .string s => some (.str s.data.toList)
  | .pointer none => some .nilp
  | .slice none n c => bif Nat.beq n 0 && Nat.beq c 0 then some .nils else none
  | .map none => some .nilm
  | .nilFunc => some .nilf
  | .nilIface => some .nili
  | .func (.func f) a c => match a.toList, c.toList with | [], [] => some (.fn f [] []) | _, _ => none
  | _ => none

def absAts : List Value → Option (List At)
  | [] => some []
  | v :: l => match absAt v, absAts l with
    | some a, some ys => some (a :: ys)
    | _, _ => none

def absC : Value → Option (Bool × List At)
  | .agg cs => match absAts cs.toList with | some l => some (true, l) | none => none
  | v => match absAt v with | some a => some (false, [a]) | none => none

def absCs : List Value → Option (List (Bool × List At))
  | [] => some []
  | v :: l => match absC v, absCs l with
    | some a, some ys => some (a :: ys)
    | _, _ => none

def absV : Value → Option V
  | .tuple vs => match absCs vs.toList with | some l => some (.tup l) | none => none
  | v => match absC v with | some (g, l) => some (.c g l) | none => none

theorem absAt_conc (η : Env) {v : Value} {a : At} (h : absAt v = some a) : a.conc η = some v := by
  cases v <;> simp only [absAt] at h <;> try (cases h; done)
  case bool b => cases h; rfl
  case int k n => cases h; rfl
  case string s => cases h; rfl
  case nilFunc => cases h; rfl
  case nilIface => cases h; rfl
  case pointer p => cases p with
    | none => cases h; rfl
    | some _ => simp at h
  case slice p n c => cases p with
    | some _ => simp at h
    | none =>
      simp only [Bool.cond_eq_ite] at h
      split at h
      · rename_i hb; simp at hb; cases h; simp [At.conc, hb]
      · cases h
  case map p => cases p with
    | none => cases h; rfl
    | some _ => simp at h
  case func fn a c => cases fn <;> simp only at h <;> try (cases h; done)
                      case func f =>
                        split at h
                        · rename_i h1 h2; cases h; simp only [At.conc, ptrs, fsts]
                          have e1 : a = #[] := by simpa using h1
                          have e2 : c = #[] := by simpa using h2
                          rw [e1, e2]
                        · cases h

theorem absAts_conc (η : Env) : ∀ (l : List Value) (as : List At), absAts l = some as → concs η as = some l := by
  intro l
  induction l with
  | nil => intro as h; cases h; rfl
  | cons v l ih =>
    intro as h
    simp only [absAts] at h
    cases ha : absAt v with
    | none => simp [ha] at h
    | some a => cases hl : absAts l with
      | none => simp [ha, hl] at h
      | some bs => simp [ha, hl] at h; subst h; simp [concs, absAt_conc η ha, ih _ hl]

theorem absC_conc (η : Env) {v : Value} {g : Bool} {l : List At} (h : absC v = some (g, l)) : comp η g l = some v := by
  by_cases hv : ∃ cs, v = .agg cs
  · obtain ⟨cs, rfl⟩ := hv
    simp only [absC] at h
    cases ha : absAts cs.toList with
    | none => simp [ha] at h
    | some as => simp [ha] at h; obtain ⟨rfl, rfl⟩ := h; simp [comp, absAts_conc η _ _ ha]
  · have : absC v = match absAt v with | some a => some (false, [a]) | none => none := by
      cases v <;> first | rfl | exact absurd ⟨_, rfl⟩ hv
    rw [this] at h
    cases ha : absAt v with
    | none => simp [ha] at h
    | some a => simp [ha] at h; obtain ⟨rfl, rfl⟩ := h; simp [comp, concs, absAt_conc η ha]

theorem absCs_conc (η : Env) : ∀ (l : List Value) (as : List (Bool × List At)), absCs l = some as → comps η as = some l := by
  intro l
  induction l with
  | nil => intro as h; cases h; rfl
  | cons v l ih =>
    intro as h
    simp only [absCs] at h
    cases ha : absC v with
    | none => simp [ha] at h
    | some a => obtain ⟨g, m⟩ := a; cases hl : absCs l with
      | none => simp [ha, hl] at h
      | some bs => simp [ha, hl] at h; subst h; simp [comps, absC_conc η ha, ih _ hl]

theorem absV_conc (η : Env) {v : Value} {a : V} (h : absV v = some a) : a.conc η = some v := by
  by_cases hv : ∃ cs, v = .tuple cs
  · obtain ⟨cs, rfl⟩ := hv
    simp only [absV] at h
    cases ha : absCs cs.toList with
    | none => simp [ha] at h
    | some as => simp [ha] at h; subst h; simp [V.conc, absCs_conc η _ _ ha]
  · have : absV v = match absC v with | some (g, l) => some (.c g l) | none => none := by
      cases v <;> first | rfl | exact absurd ⟨_, rfl⟩ hv
    rw [this] at h
    cases ha : absC v with
    | none => simp [ha] at h
    | some p => obtain ⟨g, l⟩ := p; simp [ha] at h; subst h; exact absC_conc η ha

/-! ### Operations that touch no memory: the model's own text is run -/
def runA (P : Program) {α : Type} : Sem α → Option α
  | .pure a => some a
  | .program k => runA P (k P)
  | .mark _ k => runA P k
  | _ => none

theorem runA_run {P : Program} {α : Type} {s : Sem α} {x : α} (h : runA P s = some x) (w : World) : s.run P w = .ok x w := by
  induction s with
  | pure a => simp [runA] at h; subst h; rfl
  | program k ih => exact ih P h
  | mark m k ih => exact ih h
  | _ => simp [runA] at h

/-- The temporaries that are known stand for the frame's. -/
def RA (η : Env) (tm : Tr V) (A : Array Value) : Prop :=
  ∀ t v, tm.get t = some v → v.conc η = some (A.getD t Go.undef)

theorem RA.mono {η η' : Env} {tm : Tr V} {A : Array Value} (h : RA η tm A) (hl : η.le η') : RA η' tm A := fun t v hv => V.conc_mono hl (h t v hv)

theorem RA.put {η : Env} {tm : Tr V} {A : Array Value} (h : RA η tm A) {d : Nat} (hd : d < A.size) {v : V} {cv : Value} (hv : v.conc η = some cv) :
    RA η (tm.put (some v) d) (A.setIfInBounds d cv) := by
  intro t u hu
  rw [Tr.get_put] at hu
  by_cases e : t = d
  · subst e; rw [if_pos rfl] at hu; cases hu; simp [hd, hv]
  · rw [if_neg e] at hu; have := h t u hu; simp only [Array.getD_eq_getD_getElem?] at this ⊢; rw [Array.getElem?_setIfInBounds_ne (Ne.symm e)]; exact this

noncomputable def evO (P : Program) (tm : Tr V) : Operand → Option V
  | .tmp t => tm.get t
  | .const v => absV v
  | .global g => bif Nat.blt g P.globals.size then some (.one (.ptr g 0)) else none
  | .func f => some (.one (.fn f [] []))

/-- Globals stand at their own numbers. -/
def Env.glob (η : Env) (P : Program) : Prop := ∀ g, g < P.globals.size → η.blk g = some (g, 0)

end Go.Proofs.YtmnaddlniaklcaaGreatDoor.Ev
