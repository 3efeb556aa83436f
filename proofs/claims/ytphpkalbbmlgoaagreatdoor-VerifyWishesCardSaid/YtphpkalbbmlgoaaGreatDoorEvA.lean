/- An abstract interpreter of the model's code, first part: tries, abstract values, what they stand for. No program in sight. -/
import Derived.WalkKit
import Derived.Laws.CopyRow
import Derived.KernelRfl
import Derived.CallsIn
import Derived.OrdersIn
import Derived.RangeFuncIn
import Derived.LoopNIn
import Derived.Laws.Cells
import Derived.Laws.IdiomStrings
namespace Go.Proofs.YtphpkalbbmlgoaaGreatDoor.Ev
open Go
set_option linter.unusedVariables false

inductive I8 where
  | i0
  | i1
  | i2
  | i3
  | i4
  | i5
  | i6
  | i7
  deriving DecidableEq

def i8 : Nat → I8
  | 0 => .i0 | 1 => .i1 | 2 => .i2 | 3 => .i3 | 4 => .i4 | 5 => .i5 | 6 => .i6 | _ => .i7

theorem i8_inj {a b : Nat} (ha : a < 8) (hb : b < 8) (h : i8 a = i8 b) : a = b := by
  rcases (show a = 0 ∨ a = 1 ∨ a = 2 ∨ a = 3 ∨ a = 4 ∨ a = 5 ∨ a = 6 ∨ a = 7 by omega) with rfl | rfl | rfl | rfl | rfl | rfl | rfl | rfl <;>
  rcases (show b = 0 ∨ b = 1 ∨ b = 2 ∨ b = 3 ∨ b = 4 ∨ b = 5 ∨ b = 6 ∨ b = 7 by omega) with rfl | rfl | rfl | rfl | rfl | rfl | rfl | rfl <;> first | rfl | cases h

inductive Tr (α : Type) where
  | nil
  | node (v : Option α) (c0 c1 c2 c3 c4 c5 c6 c7 : Tr α)

noncomputable def pathF (f : Nat) : Nat → List I8 :=
  Nat.rec (motive := fun _ => Nat → List I8) (fun _ => []) (fun _ ih k => Nat.rec (motive := fun _ => List I8) [] (fun k' _ => i8 (Nat.mod k' 8) :: ih (Nat.div k' 8)) k) f

noncomputable def path (k : Nat) : List I8 := pathF (Nat.succ k) k

--EV-HOT

abbrev Tr.GT (α : Type) : Type := Tr α → Option α

abbrev Tr.PT (α : Type) : Type := Tr α → Tr α

noncomputable def Tr.top {α : Type} (v : Option α) (_x0 _x1 _x2 _x3 _x4 _x5 _x6 _x7 : Tr α) (_y0 _y1 _y2 _y3 _y4 _y5 _y6 _y7 : Option α) : Option α := v

noncomputable def Tr.getNil {α : Type} (t : Tr α) : Option α := Tr.rec (motive := fun _ => Option α) none Tr.top t

noncomputable def Tr.pick {α : Type} (ih : Tr.GT α) (d : I8) (_v : Option α) (c0 c1 c2 c3 c4 c5 c6 c7 : Tr α) (_y0 _y1 _y2 _y3 _y4 _y5 _y6 _y7 : Option α) : Option α := ih (I8.rec (motive := fun _ => Tr α) c0 c1 c2 c3 c4 c5 c6 c7 d)

noncomputable def Tr.getCons {α : Type} (d : I8) (_p : List I8) (ih : Tr.GT α) (t : Tr α) : Option α := Tr.rec (motive := fun _ => Option α) none (Tr.pick ih d) t

noncomputable def Tr.getP {α : Type} (p : List I8) : Tr α → Option α := List.rec (motive := fun _ => Tr.GT α) Tr.getNil Tr.getCons p

noncomputable def Tr.get {α : Type} (t : Tr α) (k : Nat) : Option α := Tr.getP (path k) t

abbrev Tr.ST (α : Type) : Type := Option α → Tr α → Tr α → Tr α → Tr α → Tr α → Tr α → Tr α → Tr α → Tr α → Tr α

noncomputable def Tr.set0 {α : Type} (v : Option α) (y c0 c1 c2 c3 c4 c5 c6 c7 : Tr α) : Tr α := .node v y c1 c2 c3 c4 c5 c6 c7

noncomputable def Tr.set1 {α : Type} (v : Option α) (y c0 c1 c2 c3 c4 c5 c6 c7 : Tr α) : Tr α := .node v c0 y c2 c3 c4 c5 c6 c7

noncomputable def Tr.set2 {α : Type} (v : Option α) (y c0 c1 c2 c3 c4 c5 c6 c7 : Tr α) : Tr α := .node v c0 c1 y c3 c4 c5 c6 c7

noncomputable def Tr.set3 {α : Type} (v : Option α) (y c0 c1 c2 c3 c4 c5 c6 c7 : Tr α) : Tr α := .node v c0 c1 c2 y c4 c5 c6 c7

noncomputable def Tr.set4 {α : Type} (v : Option α) (y c0 c1 c2 c3 c4 c5 c6 c7 : Tr α) : Tr α := .node v c0 c1 c2 c3 y c5 c6 c7

noncomputable def Tr.set5 {α : Type} (v : Option α) (y c0 c1 c2 c3 c4 c5 c6 c7 : Tr α) : Tr α := .node v c0 c1 c2 c3 c4 y c6 c7

noncomputable def Tr.set6 {α : Type} (v : Option α) (y c0 c1 c2 c3 c4 c5 c6 c7 : Tr α) : Tr α := .node v c0 c1 c2 c3 c4 c5 y c7

noncomputable def Tr.set7 {α : Type} (v : Option α) (y c0 c1 c2 c3 c4 c5 c6 c7 : Tr α) : Tr α := .node v c0 c1 c2 c3 c4 c5 c6 y

noncomputable def Tr.setC {α : Type} (d : I8) : Option α → Tr α → Tr α → Tr α → Tr α → Tr α → Tr α → Tr α → Tr α → Tr α → Tr α :=
  I8.rec (motive := fun _ => Tr.ST α) Tr.set0 Tr.set1 Tr.set2 Tr.set3 Tr.set4 Tr.set5 Tr.set6 Tr.set7 d

noncomputable def Tr.over {α : Type} (x : Option α) (_v : Option α) (c0 c1 c2 c3 c4 c5 c6 c7 : Tr α) (_y0 _y1 _y2 _y3 _y4 _y5 _y6 _y7 : Tr α) : Tr α := .node x c0 c1 c2 c3 c4 c5 c6 c7

noncomputable def Tr.putNil {α : Type} (x : Option α) (t : Tr α) : Tr α := Tr.rec (motive := fun _ => Tr α) (.node x .nil .nil .nil .nil .nil .nil .nil .nil) (Tr.over x) t

noncomputable def Tr.putIn {α : Type} (d : I8) (ih : Tr.PT α) (v : Option α) (c0 c1 c2 c3 c4 c5 c6 c7 : Tr α) (_y0 _y1 _y2 _y3 _y4 _y5 _y6 _y7 : Tr α) : Tr α := Tr.setC d v (ih (I8.rec (motive := fun _ => Tr α) c0 c1 c2 c3 c4 c5 c6 c7 d)) c0 c1 c2 c3 c4 c5 c6 c7

noncomputable def Tr.putCons {α : Type} (d : I8) (_p : List I8) (ih : Tr.PT α) (t : Tr α) : Tr α :=
  Tr.rec (motive := fun _ => Tr α) (Tr.setC d none (ih .nil) .nil .nil .nil .nil .nil .nil .nil .nil) (Tr.putIn d ih) t

noncomputable def Tr.putP {α : Type} (x : Option α) (p : List I8) : Tr α → Tr α := List.rec (motive := fun _ => Tr.PT α) (Tr.putNil x) Tr.putCons p

noncomputable def Tr.put {α : Type} (t : Tr α) (x : Option α) (k : Nat) : Tr α := Tr.putP x (path k) t
--EV-END

section tries
variable {α : Type}
theorem pathF_inj : ∀ (f k j : Nat), k < f → ∀ g, j < g → pathF f k = pathF g j → k = j := by
  intro f
  induction f with
  | zero => intro k j h; omega
  | succ f ih =>
    intro k j hk g hj h
    cases g with
    | zero => omega
    | succ g =>
      cases k with
      | zero =>
        cases j with
        | zero => rfl
        | succ j => exact absurd h (by show ([] : List I8) ≠ i8 (j % 8) :: pathF g (j / 8); simp)
      | succ k =>
        cases j with
        | zero => exact absurd h (by show i8 (k % 8) :: pathF f (k / 8) ≠ ([] : List I8); simp)
        | succ j =>
          have h' : i8 (k % 8) :: pathF f (k / 8) = i8 (j % 8) :: pathF g (j / 8) := h
          injection h' with h1 h2
          have e1 := i8_inj (Nat.mod_lt _ (by decide)) (Nat.mod_lt _ (by decide)) h1
          have e2 := ih (k / 8) (j / 8) (by omega) g (by omega) h2
          omega

theorem path_inj {k j : Nat} (h : path k = path j) : k = j := pathF_inj _ _ _ (Nat.lt_succ_self k) _ (Nat.lt_succ_self j) h

theorem Tr.get_nil (k : Nat) : (Tr.nil : Tr α).get k = none := by
  unfold Tr.get
  cases path k <;> rfl

theorem Tr.getP_nil (p : List I8) : Tr.getP p (Tr.nil : Tr α) = none := by cases p <;> rfl

theorem Tr.getP_setC (d e : I8) (v : Option α) (c0 c1 c2 c3 c4 c5 c6 c7 y : Tr α) (p : List I8) :
    Tr.getP (e :: p) (Tr.setC d v y c0 c1 c2 c3 c4 c5 c6 c7) = if e = d then Tr.getP p y else Tr.getP (e :: p) (.node v c0 c1 c2 c3 c4 c5 c6 c7) := by
  cases d <;> cases e <;> rfl

theorem Tr.getP_putP (x : Option α) : ∀ (q p : List I8) (t : Tr α), Tr.getP p (Tr.putP x q t) = if p = q then x else Tr.getP p t := by
  intro q
  induction q with
  | nil =>
    intro p t
    cases t with
    | nil => cases p with
      | nil => rfl
      | cons e p => rw [if_neg (by simp), Tr.getP_nil]; show Tr.getP p (I8.rec (motive := fun _ => Tr α) .nil .nil .nil .nil .nil .nil .nil .nil e) = none; cases e <;> exact Tr.getP_nil p
    | node v c0 c1 c2 c3 c4 c5 c6 c7 => cases p with
      | nil => rfl
      | cons e p => rw [if_neg (by simp)]; rfl
  | cons d q ih =>
    intro p t
    cases t with
    | nil =>
      show Tr.getP p (Tr.setC d none (Tr.putP x q .nil) .nil .nil .nil .nil .nil .nil .nil .nil) = _
      cases p with
      | nil => cases d <;> rfl
      | cons e p =>
        rw [Tr.getP_setC]
        by_cases h : e = d
        · subst h
          rw [if_pos rfl, ih]
          by_cases hp : p = q
          · subst hp; simp
          · rw [if_neg hp, if_neg (by simpa using hp), Tr.getP_nil, Tr.getP_nil]
        · rw [if_neg h, if_neg (by simp [h]), Tr.getP_nil]
          show Tr.getP p (I8.rec (motive := fun _ => Tr α) .nil .nil .nil .nil .nil .nil .nil .nil e) = none
          cases e <;> exact Tr.getP_nil p
    | node v c0 c1 c2 c3 c4 c5 c6 c7 =>
      show Tr.getP p (Tr.setC d v (Tr.putP x q (I8.rec (motive := fun _ => Tr α) c0 c1 c2 c3 c4 c5 c6 c7 d)) c0 c1 c2 c3 c4 c5 c6 c7) = _
      cases p with
      | nil => cases d <;> rfl
      | cons e p =>
        rw [Tr.getP_setC]
        by_cases h : e = d
        · subst h
          rw [if_pos rfl, ih]
          by_cases hp : p = q
          · subst hp; simp
          · rw [if_neg hp, if_neg (by simpa using hp)]; rfl
        · rw [if_neg h, if_neg (by simp [h])]

theorem Tr.get_put (x : Option α) (t : Tr α) (k j : Nat) : (t.put x k).get j = if j = k then x else t.get j := by
  unfold Tr.get Tr.put
  rw [Tr.getP_putP]
  by_cases h : j = k
  · subst h; simp
  · rw [if_neg h, if_neg (fun e => h (path_inj e))]

theorem Tr.get_put_same (t : Tr α) (x : Option α) (k : Nat) : (t.put x k).get k = x := by rw [Tr.get_put, if_pos rfl]

theorem Tr.get_put_other (t : Tr α) (x : Option α) {k j : Nat} (h : j ≠ k) : (t.put x k).get j = t.get j := by rw [Tr.get_put, if_neg h]

end tries

inductive Fst where
  | val (v : Value)
  | ptr (b o : Nat)
  deriving Inhabited

inductive At where
  | bool (b : Bool)
  | int (k : IntKind) (n : Int)
  | str (l : List UInt8)
  | ptr (b o : Nat)
  | nilp
  
  | sl (b o n c : Nat)
  
  | slx (b o n e : Nat)
  | nils
  | map (b : Nat)
  | nilm
  
  | fn (f : FuncId) (first : List Fst) (caps : List (Nat × Nat))
  | yld (l : Nat)
  | nilf
  | nili
  
  | opq (i : Nat)
  
  | emp (i : Nat)
  deriving Inhabited

inductive V where
  | c (g : Bool) (l : List At)
  | tup (l : List (Bool × List At))
  deriving Inhabited

abbrev V.one (a : At) : V := .c false [a]

abbrev V.undef : V := .tup []

structure Env where
  blk : Nat → Option (Nat × Nat)
  cap : Nat → Nat
  unk : Nat → Option Value
  
  em : Nat → Option (Addr × Nat)

structure Env.le (η η' : Env) : Prop where
  blk : ∀ b B, η.blk b = some B → η'.blk b = some B ∧ η'.cap b = η.cap b
  unk : ∀ i v, η.unk i = some v → η'.unk i = some v
  em : ∀ i v, η.em i = some v → η'.em i = some v

theorem Env.le.refl (η : Env) : η.le η := ⟨fun _ _ h => ⟨h, rfl⟩, fun _ _ h => h, fun _ _ h => h⟩

theorem Env.le.trans {η η' η'' : Env} (h : η.le η') (h' : η'.le η'') : η.le η'' :=
  ⟨fun b B hb => ⟨(h'.blk b B (h.blk b B hb).1).1, ((h'.blk b B (h.blk b B hb).1).2).trans (h.blk b B hb).2⟩, fun i v hi => h'.unk i v (h.unk i v hi), fun i v hi => h'.em i v (h.em i v hi)⟩

def adr (B : Nat × Nat) (o : Nat) : Addr := ⟨B.1, B.2 + o, none⟩

def ptrs (η : Env) : List (Nat × Nat) → Option (List Value)
  | [] => some []
  | (b, o) :: l => match η.blk b, ptrs η l with
    | some B, some vs => some (.pointer (some (adr B o)) :: vs)
    | _, _ => none

def fsts (η : Env) : List Fst → Option (List Value)
  | [] => some []
  | .val v :: l => match fsts η l with | some vs => some (v :: vs) | none => none
  | .ptr b o :: l => match η.blk b, fsts η l with
    | some B, some vs => some (.pointer (some (adr B o)) :: vs)
    | _, _ => none

def At.conc (η : Env) : At → Option Value
  | .bool b => some (.bool b)
  | .int k n => some (.int k n)
  | .str l => some (.string ⟨⟨l⟩⟩)
  | .ptr b o => match η.blk b with | some B => some (.pointer (some (adr B o))) | none => none
  | .nilp => some (.pointer none)
  | .sl b o n c => match η.blk b with | some B => some (.slice (some (adr B o)) n c) | none => none
  | .slx b o n e => match η.blk b with | some B => some (.slice (some (adr B o)) n (η.cap b - e)) | none => none
  | .nils => some (.slice none 0 0)
  | .map b => match η.blk b with | some B => some (.map (some B.1)) | none => none
  | .nilm => some (.map none)
  | .fn f first caps => match fsts η first, ptrs η caps with | some us, some vs => some (.func (.func f) ⟨us⟩ ⟨vs⟩) | _, _ => none
  | .yld l => match η.blk l with | some B => some (.func (.yield B.1) #[] #[]) | none => none
  | .nilf => some .nilFunc
  | .nili => some .nilIface
  | .opq i => match η.unk i with | some v => (match v.oneCell' with | true => some v | false => none) | none => none
  | .emp i => match η.em i with | some (a, c) => some (.slice (some a) 0 c) | none => none

def concs (η : Env) : List At → Option (List Value)
  | [] => some []
  | a :: l => match a.conc η, concs η l with
    | some v, some vs => some (v :: vs)
    | _, _ => none

def comp (η : Env) (g : Bool) (l : List At) : Option Value :=
  match g, concs η l with
  | true, some vs => some (.agg ⟨vs⟩)
  | false, some [v] => some v
  | _, _ => none

def comps (η : Env) : List (Bool × List At) → Option (List Value)
  | [] => some []
  | (g, l) :: r => match comp η g l, comps η r with
    | some v, some vs => some (v :: vs)
    | _, _ => none

def V.conc (η : Env) : V → Option Value
  | .c g l => comp η g l
  | .tup l => match comps η l with | some vs => some (.tuple ⟨vs⟩) | none => none

theorem ptrs_mono {η η' : Env} (h : η.le η') : ∀ (l : List (Nat × Nat)) (vs : List Value), ptrs η l = some vs → ptrs η' l = some vs := by
  intro l
  induction l with
  | nil => intro vs hv; exact hv
  | cons p l ih =>
    obtain ⟨b, o⟩ := p
    intro vs hv
    simp only [ptrs] at hv ⊢
    cases hb : η.blk b with
    | none => simp [hb] at hv
    | some B =>
      cases hl : ptrs η l with
      | none => simp [hb, hl] at hv
      | some ws => rw [(h.blk b B hb).1, ih ws hl]; simpa [hb, hl] using hv

theorem fsts_mono {η η' : Env} (h : η.le η') : ∀ (l : List Fst) (vs : List Value), fsts η l = some vs → fsts η' l = some vs := by
  intro l
  induction l with
  | nil => intro vs hv; exact hv
  | cons p l ih =>
    intro vs hv
    cases p with
    | val v =>
      simp only [fsts] at hv ⊢
      cases hl : fsts η l with
      | none => simp [hl] at hv
      | some ws => rw [ih ws hl]; simpa [hl] using hv
    | ptr b o =>
      simp only [fsts] at hv ⊢
      cases hb : η.blk b with
      | none => simp [hb] at hv
      | some B =>
        cases hl : fsts η l with
        | none => simp [hb, hl] at hv
        | some ws => rw [(h.blk b B hb).1, ih ws hl]; simpa [hb, hl] using hv

theorem At.conc_mono {η η' : Env} (h : η.le η') {a : At} {v : Value} (ha : a.conc η = some v) : a.conc η' = some v := by
  cases a <;> simp only [At.conc] at ha ⊢ <;> try exact ha
  case ptr b o => cases hb : η.blk b with
    | none => simp [hb] at ha
    | some B => rw [(h.blk b B hb).1]; simpa [hb] using ha
  case sl b o n c => cases hb : η.blk b with
    | none => simp [hb] at ha
    | some B => rw [(h.blk b B hb).1]; simpa [hb] using ha
  case slx b o n e => cases hb : η.blk b with
    | none => simp [hb] at ha
    | some B => rw [(h.blk b B hb).1, (h.blk b B hb).2]; simpa [hb] using ha
  case map b => cases hb : η.blk b with
    | none => simp [hb] at ha
    | some B => rw [(h.blk b B hb).1]; simpa [hb] using ha
  case fn f first caps => cases hl : ptrs η caps with
    | none => simp [hl] at ha
    | some ws => cases hl' : fsts η first with
      | none => simp [hl, hl'] at ha
      | some us => rw [ptrs_mono h _ _ hl, fsts_mono h _ _ hl']; simpa [hl, hl'] using ha
  case yld l => cases hb : η.blk l with
    | none => simp [hb] at ha
    | some B => rw [(h.blk l B hb).1]; simpa [hb] using ha
  case opq i => cases hb : η.unk i with
    | none => simp [hb] at ha
    | some u => rw [h.unk i u hb]; rw [hb] at ha; exact ha
  case emp i => cases hb : η.em i with
    | none => simp [hb] at ha
    | some B => rw [h.em i B hb]; simpa [hb] using ha

theorem At.conc_one {η : Env} {a : At} {v : Value} (ha : a.conc η = some v) : v.oneCell' = true := by
  cases a <;> simp only [At.conc] at ha
  case opq i =>
    split at ha
    · rename_i u hu
      cases ho : u.oneCell' with
      | true => simp [ho] at ha; subst ha; exact ho
      | false => simp [ho] at ha
    · cases ha
  all_goals first
    | (cases ha; rfl)
    | (split at ha <;> cases ha <;> rfl)

theorem concs_mono {η η' : Env} (h : η.le η') : ∀ (l : List At) (vs : List Value), concs η l = some vs → concs η' l = some vs := by
  intro l
  induction l with
  | nil => intro vs hv; exact hv
  | cons a l ih =>
    intro vs hv
    simp only [concs] at hv ⊢
    cases ha : a.conc η with
    | none => simp [ha] at hv
    | some v => cases hl : concs η l with
      | none => simp [ha, hl] at hv
      | some ws => rw [At.conc_mono h ha, ih ws hl]; simpa [ha, hl] using hv

theorem comp_mono {η η' : Env} (h : η.le η') {g : Bool} {l : List At} {v : Value} (hv : comp η g l = some v) : comp η' g l = some v := by
  unfold comp at hv ⊢
  cases hl : concs η l with
  | none => cases g <;> simp [hl] at hv
  | some ws => rw [concs_mono h _ _ hl]; rw [hl] at hv; exact hv

theorem comps_mono {η η' : Env} (h : η.le η') : ∀ (l : List (Bool × List At)) (vs : List Value), comps η l = some vs → comps η' l = some vs := by
  intro l
  induction l with
  | nil => intro vs hv; exact hv
  | cons p l ih =>
    obtain ⟨g, m⟩ := p
    intro vs hv
    simp only [comps] at hv ⊢
    cases ha : comp η g m with
    | none => simp [ha] at hv
    | some v => cases hl : comps η l with
      | none => simp [ha, hl] at hv
      | some ws => rw [comp_mono h ha, ih ws hl]; simpa [ha, hl] using hv

theorem V.conc_mono {η η' : Env} (h : η.le η') {a : V} {v : Value} (ha : a.conc η = some v) : a.conc η' = some v := by
  cases a with
  | c g l => exact comp_mono h ha
  | tup l =>
    simp only [V.conc] at ha ⊢
    cases hl : comps η l with
    | none => simp [hl] at ha
    | some ws => rw [comps_mono h _ _ hl]; rw [hl] at ha; exact ha

def Env.void : Env := ⟨fun _ => .none, fun _ => 0, fun _ => .none, fun _ => .none⟩

theorem Env.void_le (η : Env) : Env.void.le η := ⟨fun _ _ h => by simp [Env.void] at h, fun _ _ h => by simp [Env.void] at h, fun _ _ h => by simp [Env.void] at h⟩

def absAt : Value → Option At
  | .bool b => some (.bool b)
  | .int k n => some (.int k n)
  | .string s => some (.str s.data.toList)
  | .pointer none => some .nilp
  | .slice none n c => bif Nat.beq n 0 && Nat.beq c 0 then some .nils else none
  | .map none => some .nilm
  | .nilFunc => some .nilf
  | .nilIface => some .nili
  | .func (.func f) a c => match a.toList, c.toList with | [], [] => some (.fn f [] []) | _, _ => none
  | _ => none

def absAts : List Value → Option (List At)
  | [] => some []
  | v :: l => match absAt v, absAts l with
    | some a, some ys => some (a :: ys)
    | _, _ => none

def absC : Value → Option (Bool × List At)
  | .agg cs => match absAts cs.toList with | some l => some (true, l) | none => none
  | v => match absAt v with | some a => some (false, [a]) | none => none

def absCs : List Value → Option (List (Bool × List At))
  | [] => some []
  | v :: l => match absC v, absCs l with
    | some a, some ys => some (a :: ys)
    | _, _ => none

def absV : Value → Option V
  | .tuple vs => match absCs vs.toList with | some l => some (.tup l) | none => none
  | v => match absC v with | some (g, l) => some (.c g l) | none => none

theorem absAt_conc (η : Env) {v : Value} {a : At} (h : absAt v = some a) : a.conc η = some v := by
  cases v <;> simp only [absAt] at h <;> try (cases h; done)
  case bool b => cases h; rfl
  case int k n => cases h; rfl
  case string s => cases h; rfl
  case nilFunc => cases h; rfl
  case nilIface => cases h; rfl
  case pointer p => cases p with
    | none => cases h; rfl
    | some _ => simp at h
  case slice p n c => cases p with
    | some _ => simp at h
    | none =>
      simp only [Bool.cond_eq_ite] at h
      split at h
      · rename_i hb; simp at hb; cases h; simp [At.conc, hb]
      · cases h
  case map p => cases p with
    | none => cases h; rfl
    | some _ => simp at h
  case func fn a c => cases fn <;> simp only at h <;> try (cases h; done)
                      case func f =>
                        split at h
                        · rename_i h1 h2; cases h; simp only [At.conc, ptrs, fsts]
                          have e1 : a = #[] := by simpa using h1
                          have e2 : c = #[] := by simpa using h2
                          rw [e1, e2]
                        · cases h

theorem absAts_conc (η : Env) : ∀ (l : List Value) (as : List At), absAts l = some as → concs η as = some l := by
  intro l
  induction l with
  | nil => intro as h; cases h; rfl
  | cons v l ih =>
    intro as h
    simp only [absAts] at h
    cases ha : absAt v with
    | none => simp [ha] at h
    | some a => cases hl : absAts l with
      | none => simp [ha, hl] at h
      | some bs => simp [ha, hl] at h; subst h; simp [concs, absAt_conc η ha, ih _ hl]

theorem absC_conc (η : Env) {v : Value} {g : Bool} {l : List At} (h : absC v = some (g, l)) : comp η g l = some v := by
  by_cases hv : ∃ cs, v = .agg cs
  · obtain ⟨cs, rfl⟩ := hv
    simp only [absC] at h
    cases ha : absAts cs.toList with
    | none => simp [ha] at h
    | some as => simp [ha] at h; obtain ⟨rfl, rfl⟩ := h; simp [comp, absAts_conc η _ _ ha]
  · have : absC v = match absAt v with | some a => some (false, [a]) | none => none := by
      cases v <;> first | rfl | exact absurd ⟨_, rfl⟩ hv
    rw [this] at h
    cases ha : absAt v with
    | none => simp [ha] at h
    | some a => simp [ha] at h; obtain ⟨rfl, rfl⟩ := h; simp [comp, concs, absAt_conc η ha]

theorem absCs_conc (η : Env) : ∀ (l : List Value) (as : List (Bool × List At)), absCs l = some as → comps η as = some l := by
  intro l
  induction l with
  | nil => intro as h; cases h; rfl
  | cons v l ih =>
    intro as h
    simp only [absCs] at h
    cases ha : absC v with
    | none => simp [ha] at h
    | some a => obtain ⟨g, m⟩ := a; cases hl : absCs l with
      | none => simp [ha, hl] at h
      | some bs => simp [ha, hl] at h; subst h; simp [comps, absC_conc η ha, ih _ hl]

theorem absV_conc (η : Env) {v : Value} {a : V} (h : absV v = some a) : a.conc η = some v := by
  by_cases hv : ∃ cs, v = .tuple cs
  · obtain ⟨cs, rfl⟩ := hv
    simp only [absV] at h
    cases ha : absCs cs.toList with
    | none => simp [ha] at h
    | some as => simp [ha] at h; subst h; simp [V.conc, absCs_conc η _ _ ha]
  · have : absV v = match absC v with | some (g, l) => some (.c g l) | none => none := by
      cases v <;> first | rfl | exact absurd ⟨_, rfl⟩ hv
    rw [this] at h
    cases ha : absC v with
    | none => simp [ha] at h
    | some p => obtain ⟨g, l⟩ := p; simp [ha] at h; subst h; exact absC_conc η ha

def runA (P : Program) {α : Type} : Sem α → Option α
  | .pure a => some a
  | .program k => runA P (k P)
  | .mark _ k => runA P k
  | _ => none

theorem runA_run {P : Program} {α : Type} {s : Sem α} {x : α} (h : runA P s = some x) (w : World) : s.run P w = .ok x w := by
  induction s with
  | pure a => simp [runA] at h; subst h; rfl
  | program k ih => exact ih P h
  | mark m k ih => exact ih h
  | _ => simp [runA] at h

def RA (η : Env) (tm : Tr V) (A : Array Value) : Prop :=
  ∀ t v, tm.get t = some v → v.conc η = some (A.getD t Go.undef)

theorem RA.mono {η η' : Env} {tm : Tr V} {A : Array Value} (h : RA η tm A) (hl : η.le η') : RA η' tm A := fun t v hv => V.conc_mono hl (h t v hv)

theorem RA.put {η : Env} {tm : Tr V} {A : Array Value} (h : RA η tm A) {d : Nat} (hd : d < A.size) {v : V} {cv : Value} (hv : v.conc η = some cv) :
    RA η (tm.put (some v) d) (A.setIfInBounds d cv) := by
  intro t u hu
  rw [Tr.get_put] at hu
  by_cases e : t = d
  · subst e; rw [if_pos rfl] at hu; cases hu; simp [hd, hv]
  · rw [if_neg e] at hu; have := h t u hu; simp only [Array.getD_eq_getD_getElem?] at this ⊢; rw [Array.getElem?_setIfInBounds_ne (Ne.symm e)]; exact this

noncomputable def evO (P : Program) (tm : Tr V) : Operand → Option V
  | .tmp t => tm.get t
  | .const v => absV v
  | .global g => bif Nat.blt g P.globals.size then some (.one (.ptr g 0)) else none
  | .func f => some (.one (.fn f [] []))

def Env.glob (η : Env) (P : Program) : Prop := ∀ g, g < P.globals.size → η.blk g = some (g, 0)

end Go.Proofs.YtphpkalbbmlgoaaGreatDoor.Ev

namespace Go.Proofs.YtphpkalbbmlgoaaGreatDoor.Ev
open Go

abbrev Ent := (Bool × List At) × (Bool × List At) × Nat

inductive AObj where
  
  | cells (E n : Nat) (t : Tr At)
  
  | lcells (E n s : Nat) (t : Tr At)
  
  | scells (E n : Nat) (t : Tr At)
  | map (es : List Ent) (clock : Nat)
  | loop (st : LoopState) (pe : Option Code) (tm : Tr V) (nt : Nat) (ps : Array Tmp) (assign body : Code) (df : Nat)
  | dfr
  
  | mit (m : Nat)
  deriving Inhabited

def Cells (η : Env) (β n : Nat) (t : Tr At) (C : Array Value) : Prop :=
  ∀ i, i < n → ∃ a v, t.get i = some a ∧ a.conc η = some v ∧ C[β + i]? = some v

inductive Ents (η : Env) : List Ent → List MapEntry → Prop where
  | nil : Ents η [] []
  | cons {k v : Bool × List At} {born : Nat} {ck cv : Value} {es : List Ent} {ms : List MapEntry} (hk : comp η k.1 k.2 = some ck) (hv : comp η v.1 v.2 = some cv)
      (h : Ents η es ms) : Ents η ((k, v, born) :: es) (⟨ck, cv, born⟩ :: ms)

def AObj.Rel (η : Env) (b : Nat) (B : Nat × Nat) (co : Obj) : AObj → Prop
  | .cells E n t => ∃ C, co = .cells C E (0, 0) ∧ B.2 = 0 ∧ C.size = n ∧ Cells η 0 n t C
  | .lcells E n s t => ∃ C, co = .cells C E (0, 0) ∧ B.2 + η.cap b * s = C.size ∧ n ≤ η.cap b * s ∧ (0 < s ∧ η.cap b ≤ maxLen) ∧ Cells η B.2 n t C
  | .scells E n t => ∃ C z, co = .cells C E z ∧ B.2 + η.cap b = C.size ∧ (n ≤ η.cap b ∧ η.cap b ≤ maxLen) ∧ Cells η B.2 n t C
  | .map es clock => ∃ ms, co = .map ms clock ∧ Ents η es ms.toList
  | .loop st pe tm nt ps assign body df => ∃ f A D, co = .loop ⟨st, pe, f, A, ps, assign, body, D⟩ ∧ RA η tm A ∧ A.size = nt ∧ ∃ β, η.blk df = some (D, β)
  | .dfr => co = .deferred (some [])
  | .mit m => B.2 = 0 ∧ ∃ M since stepped, η.blk m = some M ∧ co = .mapIter (some M.1) since #[] stepped

theorem Cells.mono {η η' : Env} (hl : η.le η') {β n : Nat} {t : Tr At} {C : Array Value} (h : Cells η β n t C) : Cells η' β n t C := fun i hi => by
  obtain ⟨a, v, h1, h2, h3⟩ := h i hi
  exact ⟨a, v, h1, At.conc_mono hl h2, h3⟩

theorem Ents.mono {η η' : Env} (hl : η.le η') {es : List Ent} {ms : List MapEntry} (h : Ents η es ms) : Ents η' es ms := by
  induction h with
  | nil => exact .nil
  | cons hk hv _ ih => exact .cons (comp_mono hl hk) (comp_mono hl hv) ih

theorem AObj.Rel.mono {η η' : Env} (hl : η.le η') {b : Nat} {B : Nat × Nat} {co : Obj} {o : AObj} (hb : η.blk b = some B) (h : o.Rel η b B co) : o.Rel η' b B co := by
  cases o with
  | cells E n t => obtain ⟨C, h1, h2, h3, h4⟩ := h; exact ⟨C, h1, h2, h3, h4.mono hl⟩
  | lcells E n s t => obtain ⟨C, h1, h2, h3, h4, h5⟩ := h; have := (hl.blk b B hb).2; exact ⟨C, h1, by rw [this]; exact h2, by rw [this]; exact h3, ⟨h4.1, by rw [this]; exact h4.2⟩, h5.mono hl⟩
  | scells E n t => obtain ⟨C, z, h1, h2, h3, h5⟩ := h; have := (hl.blk b B hb).2; exact ⟨C, z, h1, by rw [this]; exact h2, by rw [this]; exact h3, h5.mono hl⟩
  | map es clock => obtain ⟨ms, h1, h2⟩ := h; exact ⟨ms, h1, h2.mono hl⟩
  | loop st pe tm nt ps assign body df => obtain ⟨f, A, D, h1, h2, h3, β, h4⟩ := h; exact ⟨f, A, D, h1, h2.mono hl, h3, β, (hl.blk df _ h4).1⟩
  | dfr => exact h
  | mit m => obtain ⟨h0, M, s, t, h1, h2⟩ := h; exact ⟨h0, M, s, t, (hl.blk m _ h1).1, h2⟩

abbrev Hp := Nat → Option AObj

structure RH (η : Env) (h : Hp) (w : World) : Prop where
  live : ∀ b o, h b = some o → ∃ B co, η.blk b = some B ∧ w.heap[B.1]? = some co ∧ o.Rel η b B co
  inj : ∀ b b' B B', h b ≠ none → h b' ≠ none → η.blk b = some B → η.blk b' = some B' → B.1 = B'.1 → b = b'

def Img (η : Env) (h : Hp) (k : Nat) : Prop := ∃ b B, h b ≠ none ∧ η.blk b = some B ∧ B.1 = k

structure Fr (η : Env) (h : Hp) (w w' : World) : Prop where
  os : w'.os = w.os
  tape : w'.tape = w.tape
  output : w'.output = w.output
  size : w.heap.size ≤ w'.heap.size
  keep : ∀ k, k < w.heap.size → ¬ Img η h k → w'.heap[k]? = w.heap[k]?

noncomputable def ovr (h H H' : Hp) (nx nx' : Nat) : Hp := fun b => by
  classical exact if H b ≠ none ∨ (nx ≤ b ∧ b < nx') then H' b else h b

structure Dm (H H' : Hp) (nx nx' : Nat) : Prop where
  le : nx ≤ nx'
  dom : ∀ b, H' b ≠ none → H b ≠ none ∨ (nx ≤ b ∧ b < nx')

structure Pre (η : Env) (h : Hp) (w : World) (H : Hp) (nx nx' : Nat) : Prop where
  ext : ∀ b o, H b = some o → h b = some o
  rh : RH η h w
  fresh : ∀ b, nx ≤ b → b < nx' → η.blk b = none ∧ η.unk b = none ∧ η.em b = none

structure Stp (η : Env) (h : Hp) (w : World) (H H' : Hp) (nx nx' : Nat) (η' : Env) (w' : World) : Prop where
  le : η.le η'
  names : ∀ b, ¬ (nx ≤ b ∧ b < nx') → η'.blk b = η.blk b ∧ η'.unk b = η.unk b ∧ η'.em b = η.em b
  rh : RH η' (ovr h H H' nx nx') w'
  img : ∀ k, Img η' (ovr h H H' nx nx') k → Img η h k ∨ w.heap.size ≤ k
  fr : Fr η h w w'

theorem Dm.refl (H : Hp) (nx : Nat) : Dm H H nx nx := ⟨Nat.le_refl _, fun _ h => .inl h⟩

theorem Dm.trans {H H1 H2 : Hp} {nx nx1 nx2 : Nat} (h : Dm H H1 nx nx1) (k : Dm H1 H2 nx1 nx2) : Dm H H2 nx nx2 :=
  ⟨Nat.le_trans h.le k.le, fun b hb => by
    rcases k.dom b hb with h1 | h1
    · rcases h.dom b h1 with h2 | h2
      · exact .inl h2
      · exact .inr ⟨h2.1, by have := k.le; omega⟩
    · exact .inr ⟨by have := h.le; omega, h1.2⟩⟩

theorem ovr_in {h H H' : Hp} {nx nx' b : Nat} (hb : H b ≠ none ∨ (nx ≤ b ∧ b < nx')) : ovr h H H' nx nx' b = H' b := by unfold ovr; exact if_pos hb

theorem ovr_out {h H H' : Hp} {nx nx' b : Nat} (hb : ¬ (H b ≠ none ∨ (nx ≤ b ∧ b < nx'))) : ovr h H H' nx nx' b = h b := by unfold ovr; exact if_neg hb

theorem ovr_same {h H : Hp} {nx : Nat} (ext : ∀ b o, H b = some o → h b = some o) : ovr h H H nx nx = h := by
  funext b
  by_cases hb : H b ≠ none ∨ (nx ≤ b ∧ b < nx)
  · rw [ovr_in hb]
    rcases hb with hb | hb
    · cases ho : H b with
      | none => exact absurd ho hb
      | some o => exact (ext b o ho).symm
    · omega
  · rw [ovr_out hb]

theorem ovr_ext {h H H' : Hp} {nx nx' : Nat} (d : Dm H H' nx nx') : ∀ b o, H' b = some o → ovr h H H' nx nx' b = some o := fun b o ho => by
  rw [ovr_in (d.dom b (by rw [ho]; simp)), ho]

theorem ovr_trans {h H H1 H2 : Hp} {nx nx1 nx2 : Nat} (d : Dm H H1 nx nx1) (d' : Dm H1 H2 nx1 nx2) :
    ovr (ovr h H H1 nx nx1) H1 H2 nx1 nx2 = ovr h H H2 nx nx2 := by
  funext b
  have hle := d.le
  have hle' := d'.le
  by_cases h1 : H1 b ≠ none ∨ (nx1 ≤ b ∧ b < nx2)
  · rw [ovr_in h1, ovr_in]
    rcases h1 with h1 | h1
    · rcases d.dom b h1 with h2 | h2
      · exact .inl h2
      · exact .inr (by omega)
    · exact .inr (by omega)
  · rw [ovr_out h1]
    by_cases h2 : H b ≠ none ∨ (nx ≤ b ∧ b < nx1)
    · rw [ovr_in h2, ovr_in (by rcases h2 with h2 | h2; exact .inl h2; exact .inr (by omega))]
      have e1 : H1 b = none := Classical.byContradiction fun hc => h1 (.inl hc)
      have e2 : H2 b = none := Classical.byContradiction fun hc => h1 (d'.dom b hc)
      rw [e1, e2]
    · rw [ovr_out h2, ovr_out]
      intro hc
      rcases hc with hc | hc
      · exact h2 (.inl hc)
      · by_cases hb : b < nx1
        · exact h2 (.inr ⟨hc.1, hb⟩)
        · exact h1 (.inr (by omega))

theorem Pre.next {η : Env} {h : Hp} {w : World} {H H1 : Hp} {nx nx1 nx2 : Nat} {η1 : Env} {w1 : World} (p : Pre η h w H nx nx2) (d : Dm H H1 nx nx1) (s : Stp η h w H H1 nx nx1 η1 w1) :
    Pre η1 (ovr h H H1 nx nx1) w1 H1 nx1 nx2 :=
  ⟨ovr_ext d, s.rh, fun b h1 h2 => by
    have := s.names b (by omega)
    have hf := p.fresh b (by have := d.le; omega) h2
    rw [this.1, this.2.1, this.2.2]; exact hf⟩

theorem Pre.less {η : Env} {h : Hp} {w : World} {H : Hp} {nx nx1 nx2 : Nat} (p : Pre η h w H nx nx2) (hle : nx1 ≤ nx2) : Pre η h w H nx nx1 :=
  ⟨p.ext, p.rh, fun b h1 h2 => p.fresh b h1 (by omega)⟩

theorem Fr.refl (η : Env) (h : Hp) (w : World) : Fr η h w w := ⟨rfl, rfl, rfl, Nat.le_refl _, fun _ _ _ => rfl⟩

theorem Stp.refl {η : Env} {h : Hp} {w : World} {H : Hp} {nx : Nat} (ext : ∀ b o, H b = some o → h b = some o) (rh : RH η h w) : Stp η h w H H nx nx η w :=
  ⟨.refl η, fun _ _ => ⟨rfl, rfl, rfl⟩, by rw [ovr_same ext]; exact rh, fun k hk => by rw [ovr_same ext] at hk; exact .inl hk, .refl _ _ _⟩

theorem Fr.trans {η η1 : Env} {h h1 : Hp} {w w1 w2 : World} (f : Fr η h w w1) (g : Fr η1 h1 w1 w2) (img : ∀ k, Img η1 h1 k → Img η h k ∨ w.heap.size ≤ k) : Fr η h w w2 :=
  ⟨g.os.trans f.os, g.tape.trans f.tape, g.output.trans f.output, Nat.le_trans f.size g.size, fun k hk hn =>
    (g.keep k (Nat.lt_of_lt_of_le hk f.size) (fun hi => by rcases img k hi with h2 | h2; exact hn h2; omega)).trans (f.keep k hk hn)⟩

theorem Stp.trans {η : Env} {h : Hp} {w : World} {H H1 H2 : Hp} {nx nx1 nx2 : Nat} {η1 η2 : Env} {w1 w2 : World} (d : Dm H H1 nx nx1) (d' : Dm H1 H2 nx1 nx2)
    (s : Stp η h w H H1 nx nx1 η1 w1) (t : Stp η1 (ovr h H H1 nx nx1) w1 H1 H2 nx1 nx2 η2 w2) : Stp η h w H H2 nx nx2 η2 w2 := by
  have e := ovr_trans (h := h) d d'
  refine ⟨s.le.trans t.le, fun b hb => ?_, ?_, fun k hk => ?_, s.fr.trans t.fr s.img⟩
  · have h1 := s.names b (by have := d'.le; omega)
    have h2 := t.names b (by have := d.le; omega)
    exact ⟨h2.1.trans h1.1, h2.2.1.trans h1.2.1, h2.2.2.trans h1.2.2⟩
  · rw [← e]; exact t.rh
  · rw [← e] at hk
    rcases t.img k hk with h1 | h1
    · exact s.img k h1
    · exact .inr (Nat.le_trans s.fr.size h1)

def Quiet (w w' : World) : Prop := w'.heap = w.heap ∧ w'.os = w.os ∧ w'.output = w.output ∧ w'.tape = w.tape

theorem RH.quiet {η : Env} {h : Hp} {w w' : World} (r : RH η h w) (q : Quiet w w') : RH η h w' := ⟨fun b o hb => by rw [q.1]; exact r.live b o hb, r.inj⟩

theorem RH.fresh {η : Env} {h : Hp} {w : World} (r : RH η h w) {b : Nat} (hb : η.blk b = none) : h b = none := by
  cases ho : h b with
  | none => rfl
  | some o => obtain ⟨B, co, h1, _⟩ := r.live b o ho; rw [hb] at h1; cases h1

theorem alloc_new (w : World) (o : Obj) : (w.alloc o).heap[w.heap.size]? = some o := by show (w.heap.push o)[w.heap.size]? = some o; simp

theorem alloc_old (w : World) (o : Obj) (k : Nat) (h : k < w.heap.size) : (w.alloc o).heap[k]? = w.heap[k]? := by
  have : k ≠ w.heap.size := by omega
  show (w.heap.push o)[k]? = _
  simp [Array.getElem?_push, this]

def Env.set (η : Env) (b : Nat) (B : Nat × Nat) (c : Nat) : Env := ⟨fun k => if k = b then some B else η.blk k, fun k => if k = b then c else η.cap k, η.unk, η.em⟩

theorem Env.le_set {η : Env} {b : Nat} (hb : η.blk b = none) (B : Nat × Nat) (c : Nat) : η.le (η.set b B c) :=
  ⟨fun k K hk => by
    have : k ≠ b := fun e => by rw [e, hb] at hk; cases hk
    simp [Env.set, this, hk], fun _ _ h => h, fun _ _ h => h⟩

theorem Env.set_same (η : Env) (b : Nat) (B : Nat × Nat) (c : Nat) : (η.set b B c).blk b = some B := by simp [Env.set]

theorem Env.cap_same (η : Env) (b : Nat) (B : Nat × Nat) (c : Nat) : (η.set b B c).cap b = c := by simp [Env.set]

theorem Env.set_other {η : Env} {b k : Nat} (h : k ≠ b) (B : Nat × Nat) (c : Nat) : (η.set b B c).blk k = η.blk k := by simp [Env.set, h]

theorem Stp.alloc {η : Env} {h : Hp} {w w' : World} {H : Tr AObj} {nx : Nat} (p : Pre η h w H.get nx (nx + 1)) (co : Obj) (o : AObj) (c : Nat)
    (hq : Quiet (w.alloc co) w') (hr : o.Rel (η.set nx (w.heap.size, 0) c) nx (w.heap.size, 0) co) :
    Dm H.get (H.put (some o) nx).get nx (nx + 1) ∧ Stp η h w H.get (H.put (some o) nx).get nx (nx + 1) (η.set nx (w.heap.size, 0) c) w' := by
  obtain ⟨hnb, _, _⟩ := p.fresh nx (Nat.le_refl _) (by omega)
  have hle := Env.le_set hnb (w.heap.size, 0) c
  have hnew : (w.alloc co).heap[w.heap.size]? = some co := alloc_new w co
  have hold : ∀ k, k < w.heap.size → (w.alloc co).heap[k]? = w.heap[k]? := fun k hk => alloc_old w co k hk
  have hnone : H.get nx = none := by
    cases ho : H.get nx with
    | none => rfl
    | some o' => have := p.ext nx o' ho; rw [p.rh.fresh hnb] at this; cases this
  have hov : ovr h H.get (H.put (some o) nx).get nx (nx + 1) = fun b => if b = nx then some o else h b := by
    funext b
    by_cases e : b = nx
    · subst e; rw [ovr_in (.inr (by omega)), Tr.get_put_same]; simp
    · by_cases hb : H.get b ≠ none
      · rw [ovr_in (.inl hb), Tr.get_put_other _ _ e]; simp only [e, if_false]
        cases ho : H.get b with
        | none => exact absurd ho hb
        | some o' => exact (p.ext b o' ho).symm
      · rw [ovr_out (by intro hc; rcases hc with hc | hc; exact hb hc; omega)]; simp [e]
  have hlt : ∀ b B o', h b = some o' → η.blk b = some B → B.1 < w.heap.size := fun b B o' ho hB => by
    obtain ⟨B', co', h1, h2, _⟩ := p.rh.live b o' ho
    rw [hB] at h1; cases h1
    exact (Array.getElem?_eq_some_iff.1 h2).1
  refine ⟨⟨by omega, fun b hb => ?_⟩, hle, fun b hb => ?_, ?_, ?_, ?_⟩
  · by_cases e : b = nx
    · exact .inr (by omega)
    · rw [Tr.get_put_other _ _ e] at hb; exact .inl hb
  · exact ⟨Env.set_other (by omega) _ _, rfl, rfl⟩
  · rw [hov]
    refine RH.quiet ⟨fun b o' hb => ?_, fun b b' B B' hb hb' hB hB' e => ?_⟩ hq
    · by_cases e : b = nx
      · subst e; simp at hb; subst hb; exact ⟨_, co, Env.set_same _ _ _ _, hnew, hr⟩
      · simp only [e, if_false] at hb
        obtain ⟨B, co', h1, h2, h3⟩ := p.rh.live b o' hb
        exact ⟨B, co', (hle.blk b B h1).1, by rw [hold _ (hlt b B o' hb h1)]; exact h2, h3.mono hle h1⟩
    · by_cases e1 : b = nx
      · by_cases e2 : b' = nx
        · rw [e1, e2]
        · subst e1; simp only [e2, if_false] at hb'
          rw [Env.set_same] at hB; cases hB
          rw [Env.set_other e2] at hB'
          cases ho : h b' with
          | none => exact absurd ho hb'
          | some o' => have := hlt b' B' o' ho hB'; simp at e; omega
      · simp only [e1, if_false] at hb
        rw [Env.set_other e1] at hB
        by_cases e2 : b' = nx
        · subst e2; rw [Env.set_same] at hB'; cases hB'
          cases ho : h b with
          | none => exact absurd ho hb
          | some o' => have := hlt b B o' ho hB; simp at e; omega
        · simp only [e2, if_false] at hb'
          rw [Env.set_other e2] at hB'
          exact p.rh.inj b b' B B' hb hb' hB hB' e
  · rw [hov]
    rintro k ⟨b, B, hb, hB, rfl⟩
    by_cases e : b = nx
    · subst e; rw [Env.set_same] at hB; cases hB; exact .inr (Nat.le_refl _)
    · simp only [e, if_false] at hb; rw [Env.set_other e] at hB; exact .inl ⟨b, B, hb, hB, rfl⟩
  · refine ⟨hq.2.1, hq.2.2.2, hq.2.2.1, by rw [hq.1]; simp, fun k hk _ => by rw [hq.1]; exact hold k hk⟩

theorem Stp.set {η : Env} {h : Hp} {w w' : World} {H : Tr AObj} {nx : Nat} (p : Pre η h w H.get nx nx) {b : Nat} {B : Nat × Nat} {o o' : AObj} {co' : Obj} (hb : H.get b = some o) (hB : η.blk b = some B)
    (hw : w'.heap[B.1]? = some co') (hrest : ∀ k, k ≠ B.1 → w'.heap[k]? = w.heap[k]?) (hos : w'.os = w.os) (htape : w'.tape = w.tape) (hout : w'.output = w.output) (hsize : w.heap.size ≤ w'.heap.size)
    (hr : o'.Rel η b B co') : Dm H.get (H.put (some o') b).get nx nx ∧ Stp η h w H.get (H.put (some o') b).get nx nx η w' := by
  have hhb := p.ext b o hb
  have hov : ovr h H.get (H.put (some o') b).get nx nx = fun k => if k = b then some o' else h k := by
    funext k
    by_cases e : k = b
    · subst e; rw [ovr_in (.inl (by rw [hb]; simp)), Tr.get_put_same]; simp
    · by_cases hk : H.get k ≠ none
      · rw [ovr_in (.inl hk), Tr.get_put_other _ _ e]; simp only [e, if_false]
        cases ho : H.get k with
        | none => exact absurd ho hk
        | some o2 => exact (p.ext k o2 ho).symm
      · rw [ovr_out (by intro hc; rcases hc with hc | hc; exact hk hc; omega)]; simp [e]
  have himg : ∀ k, (if k = b then some o' else h k) ≠ none → h k ≠ none := fun k hk => by
    by_cases e : k = b
    · subst e; rw [hhb]; simp
    · simpa only [e, if_false] using hk
  refine ⟨⟨Nat.le_refl _, fun k hk => ?_⟩, .refl η, fun _ _ => ⟨rfl, rfl, rfl⟩, ?_, ?_, ?_⟩
  · by_cases e : k = b
    · subst e; exact .inl (by rw [hb]; simp)
    · rw [Tr.get_put_other _ _ e] at hk; exact .inl hk
  · rw [hov]
    refine ⟨fun k o2 hk => ?_, fun k k' K K' hk hk' hK hK' e => p.rh.inj k k' K K' (himg k hk) (himg k' hk') hK hK' e⟩
    by_cases e : k = b
    · subst e; simp at hk; subst hk; exact ⟨B, co', hB, hw, hr⟩
    · simp only [e, if_false] at hk
      obtain ⟨K, co2, h1, h2, h3⟩ := p.rh.live k o2 hk
      refine ⟨K, co2, h1, ?_, h3⟩
      rw [hrest _ (fun e2 => e (p.rh.inj k b K B (by rw [hk]; simp) (by rw [hhb]; simp) h1 hB e2))]; exact h2
  · rw [hov]
    rintro k ⟨j, J, hj, hJ, rfl⟩
    exact .inl ⟨j, J, himg j hj, hJ, rfl⟩
  · exact ⟨hos, htape, hout, hsize, fun k _ hn => hrest k (fun e => hn ⟨b, B, by rw [hhb]; simp, hB, e.symm⟩)⟩

end Go.Proofs.YtphpkalbbmlgoaaGreatDoor.Ev

namespace Go.Proofs.YtphpkalbbmlgoaaGreatDoor.Ev
open Go
noncomputable section

def rd (t : Tr At) : Nat → Nat → Option (List At)
  | _, 0 => some []
  | i, n + 1 => match t.get i with
    | some a => match rd t (i + 1) n with | some l => some (a :: l) | none => none
    | none => none

def wr (t : Tr At) : Nat → List At → Tr At
  | _, [] => t
  | i, a :: l => wr (t.put (some a) i) (i + 1) l

def row (H : Tr AObj) (b o n : Nat) : Option (List At) :=
  match H.get b with
  | some (.cells _ m t) => bif Nat.ble (o + n) m then rd t o n else none
  | some (.lcells _ m _ t) => bif Nat.ble (o + n) m then rd t o n else none
  | some (.scells _ m t) => bif Nat.ble (o + n) m then rd t o n else none
  | _ => none

theorem concs_length {η : Env} : ∀ (l : List At) (vs : List Value), concs η l = some vs → vs.length = l.length := by
  intro l
  induction l with
  | nil => intro vs h; simp [concs] at h; subst h; rfl
  | cons a l ih =>
    intro vs h
    simp only [concs] at h
    cases ha : a.conc η with
    | none => simp [ha] at h
    | some v => cases hl : concs η l with
      | none => simp [ha, hl] at h
      | some ws => simp [ha, hl] at h; subst h; simp [ih ws hl]

theorem rd_cells {η : Env} {β m : Nat} {t : Tr At} {C : Array Value} (hC : Cells η β m t C) : ∀ (n i : Nat) (l : List At), i + n ≤ m → rd t i n = some l →
    ∃ vs, concs η l = some vs ∧ l.length = n ∧ ∀ j v, vs[j]? = some v → C[β + i + j]? = some v := by
  intro n
  induction n with
  | zero => intro i l hi h; simp [rd] at h; subst h; exact ⟨[], rfl, rfl, fun j v hj => by simp at hj⟩
  | succ n ih =>
    intro i l hi h
    simp only [rd] at h
    obtain ⟨a, v, h1, h2, h3⟩ := hC i (by omega)
    rw [h1] at h
    cases hr : rd t (i + 1) n with
    | none => simp [hr] at h
    | some l' =>
      simp [hr] at h; subst h
      obtain ⟨vs, h4, h5, h6⟩ := ih (i + 1) l' (by omega) hr
      refine ⟨v :: vs, by simp [concs, h2, h4], by simp [h5], fun j u hj => ?_⟩
      cases j with
      | zero => simp at hj; subst hj; exact h3
      | succ j => have := h6 j u (by simpa using hj); rw [← this]; congr 1; omega

structure Row (η : Env) (w : World) (b : Nat) (B : Nat × Nat) (C : Array Value) (E : Nat) : Prop where
  blk : η.blk b = some B
  heap : w.heap[B.1]? = some (.cells C E (0, 0))

theorem Row.cell {η : Env} {w : World} {b : Nat} {B : Nat × Nat} {C : Array Value} {E : Nat} (r : Row η w b B C E) (o : Nat) : w.cell? (adr B o) = C[B.2 + o]? := by
  simp [World.cell?, adr, r.heap]

theorem Row.frozen {η : Env} {w : World} {b : Nat} {B : Nat × Nat} {C : Array Value} {E : Nat} (r : Row η w b B C E) (o : Nat) : w.frozen? (adr B o) = false := by
  simp [World.frozen?, adr, r.heap]

theorem adr_add (B : Nat × Nat) (o j : Nat) : (adr B o).add j = adr B (o + j) := by
  unfold adr Addr.add; split
  · subst_vars; rfl
  · simp [Nat.add_assoc]

structure RowZ (η : Env) (w : World) (b : Nat) (B : Nat × Nat) (C : Array Value) (E : Nat) : Prop where
  blk : η.blk b = some B
  heap : ∃ z, w.heap[B.1]? = some (.cells C E z)

theorem RowZ.cell {η : Env} {w : World} {b : Nat} {B : Nat × Nat} {C : Array Value} {E : Nat} (r : RowZ η w b B C E) (o : Nat) : w.cell? (adr B o) = C[B.2 + o]? := by
  obtain ⟨z, hz⟩ := r.heap
  simp [World.cell?, adr, hz]

theorem row_ok {η : Env} {h : Hp} {w : World} {H : Tr AObj} (ext : ∀ b o, H.get b = some o → h b = some o) (rh : RH η h w) {b o n : Nat} {l : List At} (hr : row H b o n = some l) :
    ∃ B vs C E, RowZ η w b B C E ∧ concs η l = some vs ∧ l.length = n ∧ ∀ j v, vs[j]? = some v → w.cell? ((adr B o).add j) = some v := by
  unfold row at hr
  have key : ∀ (B : Nat × Nat) (C : Array Value) (E m : Nat) (t : Tr At), RowZ η w b B C E → Cells η B.2 m t C → (bif Nat.ble (o + n) m then rd t o n else none) = some l →
      ∃ B vs C E, RowZ η w b B C E ∧ concs η l = some vs ∧ l.length = n ∧ ∀ j v, vs[j]? = some v → w.cell? ((adr B o).add j) = some v := by
    intro B C E m t hrow hC hif
    cases hb : Nat.ble (o + n) m with
    | false => simp [hb] at hif
    | true =>
      simp [hb] at hif
      obtain ⟨vs, h4, h5, h6⟩ := rd_cells hC n o l (Nat.le_of_ble_eq_true hb) hif
      refine ⟨B, vs, C, E, hrow, h4, h5, fun j v hj => ?_⟩
      rw [adr_add, hrow.cell, ← h6 j v hj]; congr 1; omega
  cases ho : H.get b with
  | none => simp [ho] at hr
  | some ob =>
    obtain ⟨B, co, h1, h2, h3⟩ := rh.live b ob (ext b ob ho)
    cases ob with
    | cells E m t =>
      obtain ⟨C, rfl, hβ, hs, hC⟩ := h3
      simp only [ho] at hr
      exact key B C E m t ⟨h1, _, h2⟩ (by rw [hβ]; exact hC) hr
    | lcells E m s t =>
      obtain ⟨C, rfl, _, _, _, hC⟩ := h3
      simp only [ho] at hr
      exact key B C E m t ⟨h1, _, h2⟩ hC hr
    | scells E m t =>
      obtain ⟨C, z, rfl, _, _, hC⟩ := h3
      simp only [ho] at hr
      exact key B C E m t ⟨h1, z, h2⟩ hC hr
    | _ => simp [ho] at hr

def aggD : TypeDesc → Bool
  | .struct _ | .array _ _ => true
  | _ => false

def tyAgg (P : Program) (t : TypeId) : Option (Bool × Nat) :=
  match P.underlying t, P.info? t with
  | some d, some i => some (aggD d, i.size)
  | _, _ => none

theorem run_und {P : Program} {t : TypeId} {d : TypeDesc} (h : P.underlying t = some d) (w : World) : (underlying t).run P w = .ok d w := run_underlying h w

theorem run_ti {P : Program} {t : TypeId} {i : TypeInfo} (h : P.info? t = some i) (w : World) : (typeInfo t).run P w = .ok i w := by
  simp [typeInfo, program, Sem.run, h]

theorem run_size {P : Program} {t : TypeId} {i : TypeInfo} (h : P.info? t = some i) (w : World) : (sizeOf t).run P w = .ok i.size w := by
  simp [sizeOf, run_ti h]

theorem run_agg {P : Program} {t : TypeId} {d : TypeDesc} (h : P.underlying t = some d) (w : World) : (isAgg t).run P w = .ok (aggD d) w := by
  simp only [isAgg, Sem.run_bind, run_und h, Result.andThen_ok]
  cases d <;> rfl

theorem tyAgg_ok {P : Program} {t : TypeId} {g : Bool} {n : Nat} (h : tyAgg P t = some (g, n)) (w : World) : (isAgg t).run P w = .ok g w ∧ (sizeOf t).run P w = .ok n w := by
  unfold tyAgg at h
  cases hu : P.underlying t with
  | none => simp [hu] at h
  | some d => cases hi : P.info? t with
    | none => simp [hu, hi] at h
    | some i => simp [hu, hi] at h; obtain ⟨rfl, rfl⟩ := h; exact ⟨run_agg hu w, run_size hi w⟩

theorem evO_ok {P : Program} {η : Env} {tm : Tr V} {A : Act} (ra : RA η tm A.tmps) (hg : η.glob P) {x : Operand} {v : V} (h : evO P tm x = some v) : v.conc η = some (A.eval x) := by
  cases x with
  | tmp t => exact ra t v h
  | const c => exact absV_conc η h
  | global g =>
    simp only [evO] at h
    cases hb : Nat.blt g P.globals.size with
    | false => simp [hb] at h
    | true =>
      simp [hb] at h; subst h
      have hlt : g < P.globals.size := Nat.le_of_ble_eq_true hb
      simp [V.conc, comp, concs, At.conc, hg g hlt, Act.eval, adr]
  | func f => simp only [evO] at h; cases h; simp [V.conc, comp, concs, At.conc, ptrs, fsts, Act.eval]

theorem one_conc {η : Env} {a : At} {v : Value} : (V.one a).conc η = some v ↔ a.conc η = some v := by
  simp only [V.conc, comp, concs]
  cases ha : a.conc η <;> simp

theorem evO_one {P : Program} {η : Env} {tm : Tr V} {A : Act} (ra : RA η tm A.tmps) (hg : η.glob P) {x : Operand} {a : At} (h : evO P tm x = some (.one a)) : a.conc η = some (A.eval x) :=
  one_conc.1 (evO_ok ra hg h)

def rho0 (P : Program) (tm : Tr V) (x : Operand) : Value :=
  match evO P tm x with
  | some v => match v.conc Env.void with | some cv => cv | none => Go.undef
  | none => Go.undef

def flatO (P : Program) (tm : Tr V) (x : Operand) : Bool :=
  match evO P tm x with
  | some v => match v.conc Env.void with | some _ => true | none => false
  | none => false

def flatL (P : Program) (tm : Tr V) : List Operand → Bool
  | [] => true
  | x :: l => match flatO P tm x with | true => flatL P tm l | false => false

def isSelect : Op → Bool
  | .select .. => true
  | _ => false

def evPure (P : Program) (o : Oper) (tm : Tr V) : Option V :=
  match isSelect o.op, flatL P tm o.op.operands.toList with
  | false, true => match runA P (execOp (rho0 P tm) o) with
    | some (.value v) => absV v
    | _ => none
  | _, _ => none

theorem flatL_mem {P : Program} {tm : Tr V} : ∀ (l : List Operand), flatL P tm l = true → ∀ x ∈ l, flatO P tm x = true := by
  intro l
  induction l with
  | nil => intro _ x hx; cases hx
  | cons y l ih =>
    intro h x hx
    simp only [flatL] at h
    cases hy : flatO P tm y with
    | false => simp [hy] at h
    | true =>
      simp only [hy] at h
      rcases List.mem_cons.1 hx with rfl | hx
      · exact hy
      · exact ih h x hx

theorem flatO_eval {P : Program} {η : Env} {tm : Tr V} {A : Act} (ra : RA η tm A.tmps) (hg : η.glob P) {x : Operand} (h : flatO P tm x = true) : A.eval x = rho0 P tm x := by
  unfold flatO at h
  unfold rho0
  cases hv : evO P tm x with
  | none => simp [hv] at h
  | some v =>
    simp only [hv] at h ⊢
    cases hc : v.conc Env.void with
    | none => simp [hc] at h
    | some cv =>
      have h1 := evO_ok ra hg hv
      rw [V.conc_mono (Env.void_le η) hc] at h1
      exact (Option.some.inj h1).symm

theorem evPure_ok {P : Program} {o : Oper} {tm : Tr V} {v : V} (h : evPure P o tm = some v) {η : Env} {A : Act} (ra : RA η tm A.tmps) (hg : η.glob P) (w : World) :
    ∃ cv, v.conc η = some cv ∧ (execOp A.eval o).run P w = .ok (.value cv) w := by
  unfold evPure at h
  split at h
  · rename_i hsel hfl
    split at h
    · rename_i cv hrun
      refine ⟨cv, absV_conc η h, ?_⟩
      have he : execOp A.eval o = execOp (rho0 P tm) o := execOp_congr o (fun cs b e => by rw [e] at hsel; simp [isSelect] at hsel)
        (fun x hx => flatO_eval ra hg (flatL_mem _ hfl x (by simpa using hx)))
      rw [he]
      exact runA_run hrun w
    · cases h
  · cases h

def Reads1 (P : Program) (o : Oper) (tm : Tr V) (H : Tr AObj) (v : V) : Prop :=
  ∀ (η : Env) (h : Hp) (w : World) (A : Act), (∀ b o, H.get b = some o → h b = some o) → RH η h w → RA η tm A.tmps → η.glob P →
    ∃ cv, v.conc η = some cv ∧ (execOp A.eval o).run P w = .ok (.value cv) w

theorem run_v {P : Program} {s : Sem Value} {w w' : World} {v : Value} (h : s.run P w = .ok v w') : (do pure (Next.value (← s)) : Sem Next).run P w = .ok (.value v) w' := by
  simp [h]

def evLoad (P : Program) (H : Tr AObj) (t : TypeId) (a : At) : Option V :=
  match a with
  | .ptr b o => match tyAgg P t with
    | some (true, n) => match row H b o n with | some l => some (.c true l) | none => none
    | some (false, _) => match row H b o 1 with | some l => some (.c false l) | none => none
    | none => none
  | _ => none

theorem evLoad_ok {P : Program} {H : Tr AObj} {t : TypeId} {a : At} {v : V} (h : evLoad P H t a = some v) {η : Env} {hp : Hp} {w : World} (ext : ∀ b o, H.get b = some o → hp b = some o) (rh : RH η hp w)
    {ca : Value} (ha : a.conc η = some ca) : ∃ cv, v.conc η = some cv ∧ (Instr.loadAt t ca).run P w = .ok cv w := by
  unfold evLoad at h
  cases a <;> simp only at h <;> try (cases h; done)
  rename_i b o
  cases ht : tyAgg P t with
  | none => simp [ht] at h
  | some p =>
    obtain ⟨g, n⟩ := p
    have hty := tyAgg_ok ht w
    cases g with
    | true =>
      simp only [ht] at h
      cases hr : row H b o n with
      | none => simp [hr] at h
      | some l =>
        simp [hr] at h; subst h
        obtain ⟨B, vs, C, E, hrow, hvs, hlen, hcell⟩ := row_ok ext rh hr
        simp only [At.conc, hrow.blk] at ha
        cases ha
        refine ⟨.agg ⟨vs⟩, by simp [V.conc, comp, hvs], ?_⟩
        have hl := run_loadCells_list (P := P) (w := w) (adr B o) vs hcell
        rw [concs_length _ _ hvs, hlen] at hl
        simp only [Instr.loadAt, Instr.sureAddr, loadVar, Sem.run_bind, Sem.run_pure, Result.andThen_ok, hty.1, hty.2, if_true, hl]
    | false =>
      simp only [ht] at h
      cases hr : row H b o 1 with
      | none => simp [hr] at h
      | some l =>
        simp [hr] at h; subst h
        obtain ⟨B, vs, C, E, hrow, hvs, hlen, hcell⟩ := row_ok ext rh hr
        simp only [At.conc, hrow.blk] at ha
        cases ha
        have hvl := concs_length _ _ hvs
        rw [hlen] at hvl
        match vs, hvl with
        | [u], _ =>
          have hc := hcell 0 u rfl
          rw [adr_add, Nat.add_zero] at hc
          refine ⟨u, by simp [V.conc, comp, hvs], ?_⟩
          simp only [Instr.loadAt, Instr.sureAddr, loadVar, Sem.run_bind, Sem.run_pure, Result.andThen_ok, hty.1, Bool.false_eq_true, if_false]
          simp [load, Sem.run, hc]

end
end Go.Proofs.YtphpkalbbmlgoaaGreatDoor.Ev

namespace Go.Proofs.YtphpkalbbmlgoaaGreatDoor.Ev
open Go
noncomputable section

def evFieldAddr (P : Program) (s : TypeId) (a : At) (f : Nat) : Option V :=
  match a with
  | .ptr b o => match P.underlying s with
    | some (.struct fs) => match fs.toList[f]? with
      | some fd => match P.info? fd.type with
        | some i => bif Nat.beq i.size 0 then none else some (.one (.ptr b (o + fd.offset)))
        | none => none
      | none => none
    | _ => none
  | _ => none

theorem evFieldAddr_ok {P : Program} {s : TypeId} {a : At} {f : Nat} {v : V} (h : evFieldAddr P s a f = some v) {η : Env} {w : World} {ca : Value} (ha : a.conc η = some ca) :
    ∃ cv, v.conc η = some cv ∧ (Instr.fieldAt s ca f).run P w = .ok cv w := by
  unfold evFieldAddr at h
  cases a <;> simp only at h <;> try (cases h; done)
  rename_i b o
  split at h
  · rename_i fs hu
    split at h
    · rename_i fd hf
      split at h
      · rename_i i hi
        cases hz : Nat.beq i.size 0 with
        | true => simp [hz] at h
        | false =>
          simp [hz] at h; subst h
          simp only [At.conc] at ha
          cases hb : η.blk b with
          | none => simp [hb] at ha
          | some B =>
            simp [hb] at ha; subst ha
            have hne : ¬ i.size = 0 := fun e => by rw [e] at hz; simp at hz
            have hf' : fs[f]? = some fd := by rw [← Array.getElem?_toList]; exact hf
            refine ⟨.pointer (some (adr B (o + fd.offset))), by simp [V.conc, comp, concs, At.conc, hb], ?_⟩
            simp only [Instr.fieldAt, Sem.run_bind, run_und hu, Result.andThen_ok, hf', Instr.sureAddr, Sem.run_pure, fieldPlace, run_size hi, if_neg hne, adr_add]
      · cases h
    · cases h
  · cases h

def evIndexAddr (P : Program) (t : TypeId) (x i : At) : Option V :=
  match i with
  | .int _ n => match n with
    | .ofNat k => match P.underlying t, x with
      | some (.slice e), .sl b o l _ => match P.info? e with
        | some ie => bif Nat.blt k l then some (.one (.ptr b (o + k * ie.size))) else none
        | none => none
      | some (.slice e), .slx b o l _ => match P.info? e with
        | some ie => bif Nat.blt k l then some (.one (.ptr b (o + k * ie.size))) else none
        | none => none
      | some (.array l e), .ptr b o => match P.info? e with
        | some ie => bif Nat.blt k l then some (.one (.ptr b (o + k * ie.size))) else none
        | none => none
      | _, _ => none
    | _ => none
  | _ => none

theorem blt_lt {a b : Nat} (h : Nat.blt a b = true) : a < b := Nat.le_of_ble_eq_true h

theorem evIndexAddr_ok {P : Program} {t : TypeId} {x i : At} {v : V} (h : evIndexAddr P t x i = some v) {η : Env} {w : World} {cx ci : Value} (hx : x.conc η = some cx) (hi : i.conc η = some ci) :
    ∃ cv, v.conc η = some cv ∧ (Instr.indexAt t cx ci).run P w = .ok cv w := by
  unfold evIndexAddr at h
  cases i <;> simp only at h <;> try (cases h; done)
  rename_i kd n
  simp only [At.conc] at hi
  cases hi
  cases n with
  | negSucc m => simp at h
  | ofNat k =>
    simp only at h
    have fin : ∀ (B : Nat × Nat) (b o l e : Nat) (ie : TypeInfo), η.blk b = some B → P.info? e = some ie → (bif Nat.blt k l then some (V.one (.ptr b (o + k * ie.size))) else none) = some v →
        (v.conc η = some (.pointer (some ((adr B o).add (k * ie.size)))) ∧ k < l) := by
      intro B b o l e ie hb he hif
      cases hlt : Nat.blt k l with
      | false => simp [hlt] at hif
      | true => simp [hlt] at hif; subst hif; exact ⟨by rw [adr_add]; simp [V.conc, comp, concs, At.conc, hb], blt_lt hlt⟩
    split at h
    · rename_i e b o l c hu
      split at h
      · rename_i ie he
        simp only [At.conc] at hx
        cases hb : η.blk b with
        | none => simp [hb] at hx
        | some B =>
          simp [hb] at hx; subst hx
          obtain ⟨hv, hlt⟩ := fin B b o l e ie hb he h
          refine ⟨_, hv, ?_⟩
          have h1 : (0 : Int) ≤ Int.ofNat k ∧ Int.ofNat k < (l : Int) := ⟨Int.natCast_nonneg k, by exact Int.ofNat_lt.2 hlt⟩
          simp [Instr.indexAt, asIntOf, run_und hu, run_size he, hlt]
      · cases h
    · rename_i e b o l c hu
      split at h
      · rename_i ie he
        simp only [At.conc] at hx
        cases hb : η.blk b with
        | none => simp [hb] at hx
        | some B =>
          simp [hb] at hx; subst hx
          obtain ⟨hv, hlt⟩ := fin B b o l e ie hb he h
          refine ⟨_, hv, ?_⟩
          simp [Instr.indexAt, asIntOf, run_und hu, run_size he, hlt]
      · cases h
    · rename_i l e b o hu
      split at h
      · rename_i ie he
        simp only [At.conc] at hx
        cases hb : η.blk b with
        | none => simp [hb] at hx
        | some B =>
          simp [hb] at hx; subst hx
          obtain ⟨hv, hlt⟩ := fin B b o l e ie hb he h
          refine ⟨_, hv, ?_⟩
          simp [Instr.indexAt, asIntOf, run_und hu, run_size he, hlt, Instr.sureAddr]
      · cases h
    · cases h

def evField (P : Program) (t : TypeId) (v : V) (f : Nat) : Option V :=
  match v with
  | .c true l => match P.underlying t with
    | some (.struct fs) => match fs.toList[f]? with
      | some fd => match tyAgg P fd.type with
        | some (true, n) => some (.c true ((l.drop fd.offset).take n))
        | some (false, _) => match l.drop fd.offset with | a :: _ => some (.one a) | [] => none
        | none => none
      | none => none
    | _ => none
  | _ => none

theorem concs_drop {η : Env} : ∀ (l : List At) (vs : List Value) (k : Nat), concs η l = some vs → concs η (l.drop k) = some (vs.drop k) := by
  intro l
  induction l with
  | nil => intro vs k h; simp [concs] at h; subst h; simp [concs]
  | cons a l ih =>
    intro vs k h
    simp only [concs] at h
    cases ha : a.conc η with
    | none => simp [ha] at h
    | some v => cases hl : concs η l with
      | none => simp [ha, hl] at h
      | some ws =>
        simp [ha, hl] at h; subst h
        cases k with
        | zero => simp [concs, ha, hl]
        | succ k => simpa using ih ws k hl

theorem concs_take {η : Env} : ∀ (l : List At) (vs : List Value) (k : Nat), concs η l = some vs → concs η (l.take k) = some (vs.take k) := by
  intro l
  induction l with
  | nil => intro vs k h; simp [concs] at h; subst h; simp [concs]
  | cons a l ih =>
    intro vs k h
    simp only [concs] at h
    cases ha : a.conc η with
    | none => simp [ha] at h
    | some v => cases hl : concs η l with
      | none => simp [ha, hl] at h
      | some ws =>
        simp [ha, hl] at h; subst h
        cases k with
        | zero => simp [concs]
        | succ k => simp [concs, ha, ih ws k hl]

theorem concs_append {η : Env} : ∀ (l m : List At) (vs us : List Value), concs η l = some vs → concs η m = some us → concs η (l ++ m) = some (vs ++ us) := by
  intro l
  induction l with
  | nil => intro m vs us h h'; simp [concs] at h; subst h; simpa using h'
  | cons a l ih =>
    intro m vs us h h'
    simp only [concs] at h
    cases ha : a.conc η with
    | none => simp [ha] at h
    | some v => cases hl : concs η l with
      | none => simp [ha, hl] at h
      | some ws => simp [ha, hl] at h; subst h; simp [concs, ha, ih m ws us hl h']

theorem concs_get {η : Env} : ∀ (l : List At) (vs : List Value), concs η l = some vs → ∀ (j : Nat) (a : At), l[j]? = some a → ∃ v, vs[j]? = some v ∧ a.conc η = some v := by
  intro l
  induction l with
  | nil => intro vs h j a hj; simp at hj
  | cons b l ih =>
    intro vs h j a hj
    simp only [concs] at h
    cases hb : b.conc η with
    | none => simp [hb] at h
    | some v => cases hl : concs η l with
      | none => simp [hb, hl] at h
      | some ws =>
        simp [hb, hl] at h; subst h
        cases j with
        | zero => simp at hj; subst hj; exact ⟨v, rfl, hb⟩
        | succ j => simpa using ih ws hl j a (by simpa using hj)

theorem agg_conc {η : Env} {l : List At} {cv : Value} (h : (V.c true l).conc η = some cv) : ∃ vs, concs η l = some vs ∧ cv = .agg ⟨vs⟩ := by
  simp only [V.conc, comp] at h
  cases hl : concs η l with
  | none => simp [hl] at h
  | some vs => simp [hl] at h; exact ⟨vs, rfl, h.symm⟩

theorem evField_ok {P : Program} {t : TypeId} {x : V} {f : Nat} {v : V} (h : evField P t x f = some v) {η : Env} {w : World} {cx : Value} (hx : x.conc η = some cx) :
    ∃ cv, v.conc η = some cv ∧ (Instr.field t cx f).run P w = .ok cv w := by
  unfold evField at h
  split at h
  · rename_i l
    obtain ⟨vs, hvs, rfl⟩ := agg_conc hx
    split at h
    · rename_i fs hu
      split at h
      · rename_i fd hf
        have hf' : fs[f]? = some fd := by rw [← Array.getElem?_toList]; exact hf
        split at h
        · rename_i n ht
          have hty := tyAgg_ok ht w
          cases h
          refine ⟨.agg ⟨(vs.drop fd.offset).take n⟩, by simp [V.conc, comp, concs_take _ _ n (concs_drop _ _ fd.offset hvs)], ?_⟩
          simp [Instr.field, run_und hu, hf', asAgg, part, hty.1, hty.2, List.extract_eq_take_drop]
        · rename_i n ht
          have hty := tyAgg_ok ht w
          split at h
          · rename_i a l' hd
            cases h
            have hdr := concs_drop l vs fd.offset hvs
            rw [hd] at hdr
            simp only [concs] at hdr
            cases ha : a.conc η with
            | none => simp [ha] at hdr
            | some u => cases hl' : concs η l' with
              | none => simp [ha, hl'] at hdr
              | some ws =>
                simp [ha, hl'] at hdr
                have hg : vs[fd.offset]? = some u := by
                  have := congrArg (fun l => l[0]?) hdr
                  simp at this; exact this.symm
                refine ⟨u, one_conc.2 ha, ?_⟩
                simp [Instr.field, run_und hu, hf', asAgg, part, hty.1, hg]
          · cases h
        · cases h
      · cases h
    · cases h
  · cases h

def evExtract (v : V) (i : Nat) : Option V :=
  match v with
  | .tup l => match l[i]? with | some (g, m) => some (.c g m) | none => none
  | _ => none

theorem comps_get {η : Env} : ∀ (l : List (Bool × List At)) (vs : List Value), comps η l = some vs → ∀ (j : Nat) (a : Bool × List At), l[j]? = some a → ∃ v, vs[j]? = some v ∧ comp η a.1 a.2 = some v := by
  intro l
  induction l with
  | nil => intro vs h j a hj; simp at hj
  | cons b l ih =>
    obtain ⟨g, m⟩ := b
    intro vs h j a hj
    simp only [comps] at h
    cases hb : comp η g m with
    | none => simp [hb] at h
    | some v => cases hl : comps η l with
      | none => simp [hb, hl] at h
      | some ws =>
        simp [hb, hl] at h; subst h
        cases j with
        | zero => simp at hj; subst hj; exact ⟨v, rfl, hb⟩
        | succ j => simpa using ih ws hl j a (by simpa using hj)

theorem evExtract_ok {P : Program} {x : V} {i : Nat} {v : V} (h : evExtract x i = some v) {η : Env} {w : World} {cx : Value} (hx : x.conc η = some cx) :
    ∃ cv, v.conc η = some cv ∧ (Instr.extract cx i).run P w = .ok cv w := by
  unfold evExtract at h
  split at h
  · rename_i l
    simp only [V.conc] at hx
    cases hl : comps η l with
    | none => simp [hl] at hx
    | some vs =>
      simp [hl] at hx; subst hx
      split at h
      · rename_i g m hj
        cases h
        obtain ⟨u, h1, h2⟩ := comps_get l vs hl i (g, m) hj
        exact ⟨u, h2, by simp [Instr.extract, h1]⟩
      · cases h
  · cases h

def capsOf : List V → Option (List (Nat × Nat))
  | [] => some []
  | .c false [.ptr b o] :: l => match capsOf l with | some r => some ((b, o) :: r) | none => none
  | _ => none

def evOs (P : Program) (tm : Tr V) : List Operand → Option (List V)
  | [] => some []
  | x :: l => match evO P tm x with
    | some v => match evOs P tm l with | some r => some (v :: r) | none => none
    | none => none

def VL (η : Env) : List V → List Value → Prop
  | [], [] => True
  | v :: l, c :: m => v.conc η = some c ∧ VL η l m
  | _, _ => False

theorem evOs_ok {P : Program} {η : Env} {tm : Tr V} {A : Act} (ra : RA η tm A.tmps) (hg : η.glob P) : ∀ (l : List Operand) (vs : List V), evOs P tm l = some vs → VL η vs (l.map A.eval) := by
  intro l
  induction l with
  | nil => intro vs h; simp [evOs] at h; subst h; trivial
  | cons x l ih =>
    intro vs h
    simp only [evOs] at h
    cases hx : evO P tm x with
    | none => simp [hx] at h
    | some v => cases hl : evOs P tm l with
      | none => simp [hx, hl] at h
      | some r => simp [hx, hl] at h; subst h; exact ⟨evO_ok ra hg hx, ih r hl⟩

theorem capsOf_ok {η : Env} : ∀ (vs : List V) (l : List (Nat × Nat)) (cs : List Value), capsOf vs = some l → VL η vs cs → ptrs η l = some cs := by
  intro vs
  induction vs with
  | nil =>
    intro l cs h hv
    cases cs with
    | nil => simp [capsOf] at h; subst h; rfl
    | cons _ _ => exact hv.elim
  | cons v vs ih =>
    intro l cs h hv
    cases cs with
    | nil => exact hv.elim
    | cons c cs =>
      obtain ⟨h1, h2⟩ := hv
      unfold capsOf at h
      split at h
      · rename_i e; cases e
      · rename_i b o l' e
        cases e
        cases hr : capsOf vs with
        | none => simp [hr] at h
        | some r =>
          simp [hr] at h; subst h
          have h3 := one_conc.1 h1
          simp only [At.conc] at h3
          cases hb : η.blk b with
          | none => simp [hb] at h3
          | some B => simp [hb] at h3; simp [ptrs, hb, ih r cs hr h2, h3]
      · cases h

def flats : List V → Option (List Fst)
  | [] => some []
  | v :: l => match flats l with
    | some r => match v with
      | .c false [.ptr b o] => some (.ptr b o :: r)
      | _ => match v.conc Env.void with
        | some c => some (.val c :: r)
        | none => none
    | none => none

theorem flats_ok {η : Env} : ∀ (vs : List V) (l : List Fst) (cs : List Value), flats vs = some l → VL η vs cs → fsts η l = some cs := by
  intro vs
  induction vs with
  | nil =>
    intro l cs h hv
    cases cs with
    | nil => simp [flats] at h; subst h; rfl
    | cons _ _ => exact hv.elim
  | cons v vs ih =>
    intro l cs h hv
    cases cs with
    | nil => exact hv.elim
    | cons c cs =>
      obtain ⟨h1, h2⟩ := hv
      simp only [flats] at h
      cases hr : flats vs with
      | none => simp [hr] at h
      | some r =>
        simp only [hr] at h
        have h3 := ih r cs hr h2
        split at h
        · rename_i b o
          cases h
          have h4 := one_conc.1 h1
          simp only [At.conc] at h4
          cases hb : η.blk b with
          | none => simp [hb] at h4
          | some B => simp [hb] at h4; simp [fsts, hb, h3, h4]
        · split at h
          · rename_i c' hc
            cases h
            have := V.conc_mono (Env.void_le η) hc
            rw [h1] at this; cases this
            simp [fsts, h3]
          · cases h

def evMakeFunc (P : Program) (tm : Tr V) (fn : Fn) (first captured : Array Operand) : Option V :=
  match fn with
  | .func f => match evOs P tm first.toList, evOs P tm captured.toList with
    | some us, some vs => match flats us, capsOf vs with | some l0, some l => some (.one (.fn f l0 l)) | _, _ => none
    | _, _ => none
  | _ => none

theorem evMakeFunc_ok {P : Program} {η : Env} {tm : Tr V} {A : Act} (ra : RA η tm A.tmps) (hg : η.glob P) {fn : Fn} {first captured : Array Operand} {v : V} (h : evMakeFunc P tm fn first captured = some v) (w : World) :
    ∃ cv, v.conc η = some cv ∧ (Instr.makeFunc fn (first.map A.eval) (captured.map A.eval)).run P w = .ok cv w := by
  unfold evMakeFunc at h
  split at h
  · rename_i f
    split at h
    · rename_i us vs hus hvs
      split at h
      · rename_i l0 l hl0 hl
        cases h
        have h1 := capsOf_ok vs l _ hl (evOs_ok ra hg _ _ hvs)
        have h2 := flats_ok us l0 _ hl0 (evOs_ok ra hg _ _ hus)
        refine ⟨.func (.func f) ⟨first.toList.map A.eval⟩ ⟨captured.toList.map A.eval⟩, by rw [one_conc]; simp only [At.conc, h1, h2], ?_⟩
        have e2 : captured.map A.eval = ⟨captured.toList.map A.eval⟩ := by apply Array.ext'; simp
        have e1 : first.map A.eval = ⟨first.toList.map A.eval⟩ := by apply Array.ext'; simp
        rw [e1, e2]; simp [Instr.makeFunc]
      · cases h
    · cases h
  · cases h

def isRow : Option AObj → Bool
  | some (.cells _ _ _) | some (.lcells _ _ _ _) => true
  | _ => false

def evEq (P : Program) (H : Tr AObj) (t : TypeId) (a b : At) : Option Bool :=
  match P.underlying t, a, b with
  | some (.pointer e), .ptr x o, .ptr y o' => match P.info? e with
    | some i => match Nat.beq i.size 0, isRow (H.get x), isRow (H.get y) with
      | false, true, true => bif Nat.beq x y then some (Nat.beq o o') else some false
      | _, _, _ => none
    | none => none
  | some (.pointer _), .ptr _ _, .nilp => some false
  | some (.pointer _), .nilp, .ptr _ _ => some false
  | some (.slice _), .sl _ _ _ _, .nils => some false
  | some (.slice _), .slx _ _ _ _, .nils => some false
  | some (.slice _), .emp _, .nils => some false
  | some (.slice _), .nils, .sl _ _ _ _ => some false
  | some (.slice _), .nils, .slx _ _ _ _ => some false
  | some (.slice _), .nils, .emp _ => some false
  | some (.map _ _), .map _, .nilm => some false
  | some (.map _ _), .nilm, .map _ => some false
  | some (.func _ _ _), .fn _ _ _, .nilf => some false
  | some (.func _ _ _), .nilf, .fn _ _ _ => some false
  | _, _, _ => none

theorem isRow_ok {η : Env} {h : Hp} {w : World} {H : Tr AObj} (ext : ∀ b o, H.get b = some o → h b = some o) (rh : RH η h w) {b : Nat} (hr : isRow (H.get b) = true) :
    h b ≠ none ∧ ∃ B C E, Row η w b B C E := by
  cases ho : H.get b with
  | none => simp [ho, isRow] at hr
  | some ob =>
    have hb := ext b ob ho
    obtain ⟨B, co, h1, h2, h3⟩ := rh.live b ob hb
    refine ⟨by rw [hb]; simp, ?_⟩
    cases ob with
    | cells E m t => obtain ⟨C, rfl, _⟩ := h3; exact ⟨B, C, E, h1, h2⟩
    | lcells E m s t => obtain ⟨C, rfl, _⟩ := h3; exact ⟨B, C, E, h1, h2⟩
    | _ => simp [ho, isRow] at hr

theorem conc_sl {η : Env} {b o n c : Nat} {v : Value} (h : (At.sl b o n c).conc η = some v) : ∃ B, η.blk b = some B ∧ v = .slice (some (adr B o)) n c := by
  simp only [At.conc] at h
  cases hb : η.blk b with
  | none => simp [hb] at h
  | some B => simp [hb] at h; exact ⟨B, rfl, h.symm⟩

theorem conc_slx {η : Env} {b o n e : Nat} {v : Value} (h : (At.slx b o n e).conc η = some v) : ∃ B, η.blk b = some B ∧ v = .slice (some (adr B o)) n (η.cap b - e) := by
  simp only [At.conc] at h
  cases hb : η.blk b with
  | none => simp [hb] at h
  | some B => simp [hb] at h; exact ⟨B, rfl, h.symm⟩

theorem conc_ptr {η : Env} {b o : Nat} {v : Value} (h : (At.ptr b o).conc η = some v) : ∃ B, η.blk b = some B ∧ v = .pointer (some (adr B o)) := by
  simp only [At.conc] at h
  cases hb : η.blk b with
  | none => simp [hb] at h
  | some B => simp [hb] at h; exact ⟨B, rfl, h.symm⟩

theorem conc_emp {η : Env} {i : Nat} {v : Value} (h : (At.emp i).conc η = some v) : ∃ a c, η.em i = some (a, c) ∧ v = .slice (some a) 0 c := by
  simp only [At.conc] at h
  cases hb : η.em i with
  | none => simp [hb] at h
  | some B => obtain ⟨a, c⟩ := B; simp [hb] at h; exact ⟨a, c, rfl, h.symm⟩

theorem conc_map {η : Env} {b : Nat} {v : Value} (h : (At.map b).conc η = some v) : ∃ B, η.blk b = some B ∧ v = .map (some B.1) := by
  simp only [At.conc] at h
  cases hb : η.blk b with
  | none => simp [hb] at h
  | some B => simp [hb] at h; exact ⟨B, rfl, h.symm⟩

theorem conc_fn {η : Env} {f : FuncId} {l0 : List Fst} {l : List (Nat × Nat)} {v : Value} (h : (At.fn f l0 l).conc η = some v) : ∃ uv : List Value × List Value, (fsts η l0 = some uv.1 ∧ ptrs η l = some uv.2) ∧ v = .func (.func f) ⟨uv.1⟩ ⟨uv.2⟩ := by
  simp only [At.conc] at h
  cases hb : ptrs η l with
  | none => simp [hb] at h
  | some B => cases hb' : fsts η l0 with
    | none => simp [hb, hb'] at h
    | some U => simp [hb, hb'] at h; exact ⟨(U, B), ⟨rfl, rfl⟩, h.symm⟩

theorem run_sameAddr {η : Env} {h : Hp} {w : World} (rh : RH η h w) (P : Program) {x y o o' : Nat} {B B' : Nat × Nat} {C C' : Array Value} {E E' : Nat} (hx : h x ≠ none) (hy : h y ≠ none)
    (rx : Row η w x B C E) (ry : Row η w y B' C' E') : (sameAddr (adr B o) (adr B' o')).run P w = .ok (if x = y then Nat.beq o o' else false) w := by
  by_cases e : x = y
  · subst e
    have : B = B' := Option.some.inj (rx.blk.symm.trans ry.blk)
    subst this
    simp only [sameAddr, adr, beq_self_eq_true, if_true, Sem.run_pure]
    congr 1
    rw [Bool.eq_iff_iff]
    simp
  · have hne : B.1 ≠ B'.1 := fun hc => e (rh.inj x y B B' hx hy rx.blk ry.blk hc)
    have f1 := rx.frozen o
    have f2 := ry.frozen o'
    have s1 : w.shape? B.1 = some (E, C.size) := by simp [World.shape?, rx.heap]
    have s2 : w.shape? B'.1 = some (E', C'.size) := by simp [World.shape?, ry.heap]
    have f3 : w.frozen? { block := B.1, off := C.size } = false := by simp [World.frozen?, rx.heap]
    have f4 : w.frozen? { block := B'.1, off := C'.size } = false := by simp [World.frozen?, ry.heap]
    simp only [adr] at f1 f2
    simp [sameAddr, adr, hne, frozen, Sem.run, f1, f2, noView, viewAt, shape, s1, s2, mayBeOne, stringish, f3, f4, e]

theorem evEq_ok {P : Program} {H : Tr AObj} {t : TypeId} {a b : At} {r : Bool} (h : evEq P H t a b = some r) {η : Env} {hp : Hp} {w : World} (ext : ∀ b o, H.get b = some o → hp b = some o) (rh : RH η hp w)
    {ca cb : Value} (ha : a.conc η = some ca) (hb : b.conc η = some cb) : (Op.equal t ca cb).run P w = .ok r w ∧ (∀ x y op, (eqGuard op t x y ca cb).run P w = .ok () w) ∧ (binOp .eql t ca cb = do pure (.bool (← Op.equal t ca cb))) ∧ (binOp .neq t ca cb = do pure (.bool (!(← Op.equal t ca cb)))) := by
  have hd : (∀ d, (Op.equalIn (d + 1) t ca cb).run P w = .ok r w) → (Op.equal t ca cb).run P w = .ok r w := fun hk => hk 9999
  unfold evEq at h
  split at h
  · rename_i e x o y o' hu
    obtain ⟨B, hB, rfl⟩ := conc_ptr ha
    obtain ⟨B', hB', rfl⟩ := conc_ptr hb
    refine ⟨?_, fun _ _ op => by cases op <;> rfl, rfl, rfl⟩
    split at h
    · rename_i i hi
      split at h
      · rename_i hz hrx hry
        obtain ⟨hx, Bx, C, E, rx⟩ := isRow_ok ext rh hrx
        obtain ⟨hy, By, C', E', ry⟩ := isRow_ok ext rh hry
        obtain rfl : B = Bx := Option.some.inj (hB.symm.trans rx.blk)
        obtain rfl : B' = By := Option.some.inj (hB'.symm.trans ry.blk)
        have hne : ¬ i.size = 0 := fun e => by rw [e] at hz; simp at hz
        have hs := run_sameAddr rh P (o := o) (o' := o') hx hy rx ry
        have hr : r = (if x = y then Nat.beq o o' else false) := by
          by_cases e : x = y
          · subst e; simp at h; simp [← h]
          · have : Nat.beq x y = false := by cases hb : Nat.beq x y with | false => rfl | true => exact absurd (Nat.eq_of_beq_eq_true hb) e
            simp [this] at h; simp [e, h]
        refine hd fun d => ?_
        rw [hr, ← hs]
        simp only [Op.equalIn, Sem.run_bind, run_und hu, Result.andThen_ok, run_size hi, ne_eq, hne, not_false_eq_true, if_true]
      · cases h
    · cases h
  all_goals first
    | (cases h; done)
    | (rename_i hu
       first
       | (obtain ⟨B, hB, rfl⟩ := conc_ptr ha; cases hb)
       | (obtain ⟨B, hB, rfl⟩ := conc_ptr hb; cases ha)
       | (obtain ⟨B, hB, rfl⟩ := conc_sl ha; cases hb)
       | (obtain ⟨B, hB, rfl⟩ := conc_sl hb; cases ha)
       | (obtain ⟨B, hB, rfl⟩ := conc_slx ha; cases hb)
       | (obtain ⟨B, hB, rfl⟩ := conc_slx hb; cases ha)
       | (obtain ⟨B, c, hB, rfl⟩ := conc_emp ha; cases hb)
       | (obtain ⟨B, c, hB, rfl⟩ := conc_emp hb; cases ha)
       | (obtain ⟨B, hB, rfl⟩ := conc_map ha; cases hb)
       | (obtain ⟨B, hB, rfl⟩ := conc_map hb; cases ha)
       | (obtain ⟨B, hB, rfl⟩ := conc_fn ha; cases hb)
       | (obtain ⟨B, hB, rfl⟩ := conc_fn hb; cases ha)
       cases h
       exact ⟨hd fun d => by simp [Op.equalIn, run_und hu], fun _ _ op => by cases op <;> rfl, rfl, rfl⟩)

end
end Go.Proofs.YtphpkalbbmlgoaaGreatDoor.Ev

namespace Go.Proofs.YtphpkalbbmlgoaaGreatDoor.Ev
open Go
noncomputable section

def natOf : At → Option Nat
  | .int _ (.ofNat k) => some k
  | _ => none

def bnds (len cap : Nat) (lo hi mx : Option At) : Option (Nat × Nat × Nat) :=
  match (match mx with | some a => natOf a | none => some cap) with
  | none => none
  | some m => match Nat.ble m cap with
    | false => none
    | true => match (match hi with | some a => natOf a | none => match mx with | some _ => none | none => some len) with
      | none => none
      | some h => match (match hi with | some _ => Nat.ble h m | none => true), (match lo with | some a => natOf a | none => some 0) with
        | true, some l => match (match lo with | some _ => Nat.ble l h | none => true) with | true => some (l, h, m) | false => none
        | _, _ => none

def optC (η : Env) : Option At → Option Value → Prop
  | none, none => True
  | some a, some v => a.conc η = some v
  | _, _ => False

theorem natOf_conc {η : Env} {a : At} {k : Nat} {v : Value} (h : natOf a = some k) (hv : a.conc η = some v) : ∃ kd, v = .int kd (k : Int) := by
  unfold natOf at h
  split at h
  · cases h; simp only [At.conc] at hv; cases hv; exact ⟨_, rfl⟩
  · cases h

theorem run_bound {P : Program} {w : World} {kd : IntKind} {k y : Nat} {code : BoundsCode} (h : k ≤ y) : (Instr.sliceBound (.int kd (k : Int)) y code).run P w = .ok k w := by
  have : (0 : Int) ≤ (k : Int) ∧ (k : Int) ≤ (y : Int) := ⟨Int.natCast_nonneg k, by exact Int.ofNat_le.2 h⟩
  simp [Instr.sliceBound, asIntOf, h]

theorem bnds_ok {P : Program} {w : World} {η : Env} {s : Bool} {len cap : Nat} {lo hi mx : Option At} {clo chi cmx : Option Value} (h1 : optC η lo clo) (h2 : optC η hi chi) (h3 : optC η mx cmx) {l h m : Nat}
    (hb : bnds len cap lo hi mx = some (l, h, m)) : (Instr.sliceBounds s len cap clo chi cmx).run P w = .ok (l, h, m) w := by
  unfold bnds at hb
  split at hb
  · cases hb
  · rename_i m0 hm
    split at hb
    · cases hb
    · rename_i hmc
      have hmc := Nat.le_of_ble_eq_true hmc
      split at hb
      · cases hb
      · rename_i h0 hh
        split at hb
        · rename_i l0 hhm hl
          split at hb
          · rename_i hlh
            cases hb
            cases mx with
            | none =>
              cases cmx with
              | some _ => exact h3.elim
              | none =>
                simp at hm; subst hm
                cases hi with
                | none =>
                  cases chi with
                  | some _ => exact h2.elim
                  | none =>
                    simp at hh; subst hh
                    cases lo with
                    | none => cases clo with
                      | some _ => exact h1.elim
                      | none => simp at hl; subst hl; simp [Instr.sliceBounds]
                    | some a => cases clo with
                      | none => exact h1.elim
                      | some v =>
                        obtain ⟨kd, rfl⟩ := natOf_conc hl h1
                        simp [Instr.sliceBounds, run_bound (Nat.le_of_ble_eq_true hlh)]
                | some a2 => cases chi with
                  | none => exact h2.elim
                  | some v2 =>
                    obtain ⟨kd2, rfl⟩ := natOf_conc hh h2
                    simp at hhm
                    cases lo with
                    | none => cases clo with
                      | some _ => exact h1.elim
                      | none => simp at hl; subst hl; simp [Instr.sliceBounds, run_bound hhm]
                    | some a => cases clo with
                      | none => exact h1.elim
                      | some v =>
                        obtain ⟨kd, rfl⟩ := natOf_conc hl h1
                        simp [Instr.sliceBounds, run_bound hhm, run_bound (Nat.le_of_ble_eq_true hlh)]
            | some a3 =>
              cases cmx with
              | none => exact h3.elim
              | some v3 =>
                obtain ⟨kd3, rfl⟩ := natOf_conc hm h3
                cases hi with
                | none => simp at hh
                | some a2 => cases chi with
                  | none => exact h2.elim
                  | some v2 =>
                    obtain ⟨kd2, rfl⟩ := natOf_conc hh h2
                    simp at hhm
                    cases lo with
                    | none => cases clo with
                      | some _ => exact h1.elim
                      | none => simp at hl; subst hl; simp [Instr.sliceBounds, run_bound hhm, run_bound hmc]
                    | some a => cases clo with
                      | none => exact h1.elim
                      | some v =>
                        obtain ⟨kd, rfl⟩ := natOf_conc hl h1
                        simp [Instr.sliceBounds, run_bound hhm, run_bound hmc, run_bound (Nat.le_of_ble_eq_true hlh)]
          · cases hb
        · cases hb

def known (H : Tr AObj) (b o e s : Nat) : Option Nat :=
  match H.get b with
  | some (.lcells _ m s' _) => match Nat.beq s s', Nat.beq o (e * s) with
    | true, true => some (m / s - e)
    | _, _ => none
  | some (.scells _ m _) => match Nat.beq s 1, Nat.beq o e with
    | true, true => some (m - e)
    | _, _ => none
  | _ => none

theorem known_ok {η : Env} {h : Hp} {w : World} {H : Tr AObj} (ext : ∀ b o, H.get b = some o → h b = some o) (rh : RH η h w) {b o e s k : Nat} (hk : known H b o e s = some k) : k ≤ η.cap b - e ∧ 0 < s := by
  unfold known at hk
  split at hk
  · rename_i E m s' t ho
    split at hk
    · rename_i h1 h2
      cases hk
      obtain ⟨B, co, hB, hw, C, rfl, hc, hn, ⟨hs, _⟩, _⟩ := rh.live b _ (ext b _ ho)
      have hs' : s = s' := Nat.eq_of_beq_eq_true h1
      subst hs'
      have : m / s ≤ η.cap b := by
        have h3 : m / s ≤ (η.cap b * s) / s := Nat.div_le_div_right hn
        rwa [Nat.mul_div_cancel _ hs] at h3
      exact ⟨by omega, hs⟩
    · cases hk
  · rename_i E m t ho
    split at hk
    · rename_i h1 h2
      cases hk
      obtain ⟨B, co, hB, hw, C, z, rfl, hc, ⟨hn, _⟩, _⟩ := rh.live b _ (ext b _ ho)
      have hs' : s = 1 := Nat.eq_of_beq_eq_true h1
      exact ⟨by omega, by omega⟩
    · cases hk
  · cases hk

def evSlice (P : Program) (H : Tr AObj) (t : TypeId) (x : At) (lo hi mx : Option At) : Option V :=
  match P.underlying t with
  | some (.slice e) => match P.info? e, x with
    | some i, .sl b o n c => match bnds n c lo hi mx with
      | some (l, h, m) => some (.one (.sl b (bif Nat.beq m l then o else o + l * i.size) (h - l) (m - l)))
      | none => none
    | some i, .slx b o n e' => match known H b o e' i.size with
      | some k => match mx with
        | some _ => match bnds n k lo hi mx with
          | some (l, h, m) => some (.one (.sl b (bif Nat.beq m l then o else o + l * i.size) (h - l) (m - l)))
          | none => none
        | none => match bnds n k lo hi none with
          | some (l, h, _) => match Nat.beq l 0 || Nat.blt l k with
            | true => some (.one (.slx b (o + l * i.size) (h - l) (e' + l)))
            | false => none
          | none => none
      | none => none
    | _, _ => none
  | some (.array n e) => match P.info? e, x with
    | some i, .ptr b o => match bnds n n lo hi mx with
      | some (l, h, m) => some (.one (.sl b (bif Nat.beq m l then o else o + l * i.size) (h - l) (m - l)))
      | none => none
    | _, _ => none
  | _ => none

theorem bif_beq {α : Type} (m l : Nat) (x y : α) : (bif Nat.beq m l then x else y) = if m = l then x else y := by
  by_cases e : m = l
  · subst e; simp
  · have : Nat.beq m l = false := by cases hb : Nat.beq m l with | false => rfl | true => exact absurd (Nat.eq_of_beq_eq_true hb) e
    simp [this, e]

theorem bnds_more {len k k' : Nat} {lo hi : Option At} {l h m : Nat} (hb : bnds len k lo hi none = some (l, h, m)) (hle : k ≤ k') : bnds len k' lo hi none = some (l, h, k') ∧ m = k := by
  unfold bnds at hb ⊢
  simp only [Nat.ble_self_eq_true] at hb ⊢
  cases hi with
  | none =>
    cases lo with
    | none => simp at hb ⊢; obtain ⟨rfl, rfl, rfl⟩ := hb; simp
    | some a =>
      cases hn : natOf a with
      | none => simp [hn] at hb
      | some l0 =>
        cases hl : Nat.ble l0 len with
        | false => simp [hn, hl] at hb
        | true => simp [hn, hl] at hb ⊢; obtain ⟨rfl, rfl, rfl⟩ := hb; simp
  | some a2 =>
    cases hn2 : natOf a2 with
    | none => simp [hn2] at hb
    | some h0 =>
      cases hh : Nat.ble h0 k with
      | false => simp [hn2, hh] at hb
      | true =>
        have hh' : Nat.ble h0 k' = true := Nat.ble_eq_true_of_le (Nat.le_trans (Nat.le_of_ble_eq_true hh) hle)
        cases lo with
        | none => simp [hn2, hh, hh'] at hb ⊢; obtain ⟨rfl, rfl, rfl⟩ := hb; simp
        | some a =>
          cases hn : natOf a with
          | none => simp [hn, hn2, hh] at hb
          | some l0 =>
            cases hl : Nat.ble l0 h0 with
            | false => simp [hn, hn2, hh, hl] at hb
            | true => simp [hn, hn2, hh, hh', hl] at hb ⊢; obtain ⟨rfl, rfl, rfl⟩ := hb; simp

theorem slice_conc {η : Env} {b o n c : Nat} {B : Nat × Nat} (hB : η.blk b = some B) : (V.one (.sl b o n c)).conc η = some (.slice (some (adr B o)) n c) := by
  rw [one_conc]; simp [At.conc, hB]

theorem evSlice_ok {P : Program} {H : Tr AObj} {t : TypeId} {x : At} {lo hi mx : Option At} {v : V} (hv : evSlice P H t x lo hi mx = some v) {η : Env} {hp : Hp} {w : World} (ext : ∀ b o, H.get b = some o → hp b = some o) (rh : RH η hp w)
    {cx : Value} {clo chi cmx : Option Value} (hx : x.conc η = some cx) (h1 : optC η lo clo) (h2 : optC η hi chi) (h3 : optC η mx cmx) :
    ∃ cv, v.conc η = some cv ∧ (Instr.sliceAt t cx clo chi cmx).run P w = .ok cv w := by
  unfold evSlice at hv
  split at hv
  · rename_i e hu
    split at hv
    · rename_i i b o n c hi'
      obtain ⟨B, hB, rfl⟩ := conc_sl hx
      split at hv
      · rename_i l h m hb
        cases hv
        refine ⟨_, slice_conc hB, ?_⟩
        simp only [Instr.sliceAt, Sem.run_bind, run_und hu, Result.andThen_ok, Instr.slice, bnds_ok h1 h2 h3 hb, run_size hi', Sem.run_pure, bif_beq, Option.map_some, adr_add]
        by_cases e : m = l <;> simp [e]
      · cases hv
    · rename_i i b o n e' hi'
      obtain ⟨B, hB, rfl⟩ := conc_slx hx
      split at hv
      · rename_i k hk
        obtain ⟨hle, hs⟩ := known_ok ext rh hk
        split at hv
        · rename_i a3
          split at hv
          · rename_i l h m hb
            cases hv
            have hb' : bnds n (η.cap b - e') lo hi (some a3) = some (l, h, m) := by
              unfold bnds at hb ⊢
              cases hm : natOf a3 with
              | none => simp [hm] at hb
              | some m0 =>
                cases hmk : Nat.ble m0 k with
                | false => simp [hm, hmk] at hb
                | true =>
                  have hmk' : Nat.ble m0 (η.cap b - e') = true := Nat.ble_eq_true_of_le (Nat.le_trans (Nat.le_of_ble_eq_true hmk) hle)
                  simp only [hm, hmk] at hb
                  simp only [hm, hmk']; exact hb
            refine ⟨_, slice_conc hB, ?_⟩
            simp only [Instr.sliceAt, Sem.run_bind, run_und hu, Result.andThen_ok, Instr.slice, bnds_ok h1 h2 h3 hb', run_size hi', Sem.run_pure, bif_beq, Option.map_some, adr_add]
            by_cases e : m = l <;> simp [e]
          · cases hv
        · split at hv
          · rename_i l h m hb
            split at hv
            · rename_i hc
              cases hv
              obtain ⟨hb', hm⟩ := bnds_more hb hle
              have hcv : (V.one (.slx b (o + l * i.size) (h - l) (e' + l))).conc η = some (.slice (some (adr B (o + l * i.size))) (h - l) (η.cap b - e' - l)) := by
                rw [one_conc]; simp [At.conc, hB, Nat.sub_sub]
              refine ⟨_, hcv, ?_⟩
              simp only [Instr.sliceAt, Sem.run_bind, run_und hu, Result.andThen_ok, Instr.slice, bnds_ok h1 h2 h3 hb', run_size hi', Sem.run_pure, Option.map_some, adr_add]
              by_cases e : η.cap b - e' = l
              · have hl0 : l = 0 := by
                  rw [Bool.or_eq_true] at hc
                  rcases hc with hc | hc
                  · exact Nat.eq_of_beq_eq_true hc
                  · have := blt_lt hc; omega
                rw [if_pos e, hl0]; simp
              · rw [if_neg e]
            · cases hv
          · cases hv
      · cases hv
    · cases hv
  · rename_i n e hu
    split at hv
    · rename_i i b o hi'
      obtain ⟨B, hB, rfl⟩ := conc_ptr hx
      split at hv
      · rename_i l h m hb
        cases hv
        refine ⟨_, slice_conc hB, ?_⟩
        simp only [Instr.sliceAt, Sem.run_bind, run_und hu, Result.andThen_ok, Instr.sureAddr, bnds_ok h1 h2 h3 hb, run_size hi', Sem.run_pure, bif_beq, adr_add]
        by_cases e : m = l <;> simp [e]
      · cases hv
    · cases hv
  · cases hv

def evLen (P : Program) (H : Tr AObj) (t : TypeId) (x : At) : Option V :=
  match P.underlying t, x with
  | some (.slice _), .sl _ _ n _ => some (.one (.int .i64 (Int.ofNat n)))
  | some (.slice _), .slx _ _ n _ => some (.one (.int .i64 (Int.ofNat n)))
  | some (.slice _), .emp _ => some (.one (.int .i64 (Int.ofNat 0)))
  | some (.map _ _), .map b => match H.get b with
    | some (.map es _) => some (.one (.int .i64 (Int.ofNat es.length)))
    | _ => none
  | _, _ => none

theorem Ents.length {η : Env} {es : List Ent} {ms : List MapEntry} (h : Ents η es ms) : ms.length = es.length := by
  induction h with
  | nil => rfl
  | cons _ _ _ ih => simp [ih]

theorem evLen_ok {P : Program} {H : Tr AObj} {t : TypeId} {x : At} {v : V} (hv : evLen P H t x = some v) {η : Env} {hp : Hp} {w : World} (ext : ∀ b o, H.get b = some o → hp b = some o) (rh : RH η hp w)
    {cx : Value} (hx : x.conc η = some cx) (ts : Array TypeId) (ty : TypeId) (hts : ts[0]? = some t) : ∃ cv, v.conc η = some cv ∧ (Builtin.len_ ts ty #[cx]).run P w = .ok cv w := by
  unfold evLen at hv
  split at hv
  · rename_i e b o n c hu
    obtain ⟨B, hB, rfl⟩ := conc_sl hx
    cases hv; exact ⟨_, one_conc.2 rfl, by simp [Builtin.len_, hts, run_und hu, goInt]⟩
  · rename_i e b o n c hu
    obtain ⟨B, hB, rfl⟩ := conc_slx hx
    cases hv; exact ⟨_, one_conc.2 rfl, by simp [Builtin.len_, hts, run_und hu, goInt]⟩
  · rename_i e i hu
    obtain ⟨B, c, hB, rfl⟩ := conc_emp hx
    cases hv; exact ⟨_, one_conc.2 rfl, by simp [Builtin.len_, hts, run_und hu, goInt]⟩
  · rename_i kt et b hu
    obtain ⟨B, hB, rfl⟩ := conc_map hx
    split at hv
    · rename_i es clock ho
      cases hv
      obtain ⟨B', co, hB', hw, ms, rfl, hms⟩ := rh.live b _ (ext b _ ho)
      obtain rfl : B = B' := Option.some.inj (hB.symm.trans hB')
      refine ⟨_, one_conc.2 rfl, ?_⟩
      have hl := hms.length
      simp [Builtin.len_, hts, run_und hu, goInt, getObj, Sem.run, hw] 
      have : ms.size = es.length := by simpa using hl
      rw [this]
    · cases hv
  · cases hv

def evCap (P : Program) (t : TypeId) (x : At) : Option V :=
  match P.underlying t, x with
  | some (.slice _), .sl _ _ _ c => some (.one (.int .i64 (Int.ofNat c)))
  | _, _ => none

theorem evCap_ok {P : Program} {t : TypeId} {x : At} {v : V} (hv : evCap P t x = some v) {η : Env} {w : World}
    {cx : Value} (hx : x.conc η = some cx) (ts : Array TypeId) (ty : TypeId) (hts : ts[0]? = some t) : ∃ cv, v.conc η = some cv ∧ (Builtin.cap_ ts ty #[cx]).run P w = .ok cv w := by
  unfold evCap at hv
  split at hv
  · rename_i e b o n c hu
    obtain ⟨B, hB, rfl⟩ := conc_sl hx
    cases hv; exact ⟨_, one_conc.2 rfl, by simp [Builtin.cap_, hts, run_und hu, goInt]⟩
  · cases hv

def lset (l : List At) (off : Nat) (xs : List At) : List At := l.take off ++ xs ++ l.drop (off + xs.length)

def fillA (place : Nat → Option (Nat × Nat)) (cells : List At) : List (Nat × V) → Option (List At)
  | [] => some cells
  | (i, .c _ xs) :: rest => match place i with
    | some (off, size) => match Nat.beq xs.length size, Nat.ble (off + xs.length) cells.length with
      | true, true => fillA place (lset cells off xs) rest
      | _, _ => none
    | none => none
  | _ => none

def PL (η : Env) : List (Nat × V) → List (Nat × Value) → Prop
  | [], [] => True
  | (i, v) :: l, (j, c) :: m => i = j ∧ v.conc η = some c ∧ PL η l m
  | _, _ => False

theorem foldl_set (off : Nat) : ∀ (xs : List Value) (k : Nat) (cs : Array Value), off + k + xs.length ≤ cs.size →
    ((xs.zipIdx k).foldl (fun cs (p : Value × Nat) => cs.setIfInBounds (off + p.2) p.1) cs).toList = cs.toList.take (off + k) ++ xs ++ cs.toList.drop (off + k + xs.length) := by
  intro xs
  induction xs with
  | nil => intro k cs h; simp
  | cons x xs ih =>
    intro k cs h
    simp only [List.length_cons] at h
    simp only [List.zipIdx_cons, List.foldl_cons]
    rw [ih (k + 1) (cs.setIfInBounds (off + k) x) (by simp; omega)]
    apply List.ext_getElem?
    intro j
    simp only [Array.toList_setIfInBounds, List.getElem?_append, List.length_append, List.length_take, List.getElem?_take, List.getElem?_drop, List.length_set, Array.length_toList, List.length_cons]
    by_cases h1 : j < off + k
    · have e1 : min (off + (k + 1)) cs.size = off + k + 1 := by omega
      have e2 : min (off + k) cs.size = off + k := by omega
      simp only [e1, e2]
      rw [if_pos (by omega), if_pos (by omega), if_pos (by omega), if_pos (by omega), if_pos (by omega), if_pos h1, List.getElem?_set_ne (by omega)]
    · have e1 : min (off + (k + 1)) cs.size = off + k + 1 := by omega
      have e2 : min (off + k) cs.size = off + k := by omega
      simp only [e1, e2]
      by_cases h2 : j = off + k
      · subst h2
        rw [if_pos (by omega), if_pos (by omega), if_pos (by omega), if_pos (by omega), if_neg (by omega), List.getElem?_set_self (by simp; omega)]
        simp
      · by_cases h3 : j < off + k + 1 + xs.length
        · rw [if_pos (by omega), if_neg (by omega), if_pos (by omega), if_neg (by omega)]
          have : j - (off + k) = (j - (off + k + 1)) + 1 := by omega
          rw [this, List.getElem?_cons_succ]
        · rw [if_neg (by omega), if_neg (by omega), List.getElem?_set_ne (by omega)]
          congr 1; omega

theorem cells_conc {η : Env} {g : Bool} {l : List At} {cv : Value} (h : (V.c g l).conc η = some cv) : ∃ vs, concs η l = some vs ∧ cv.cells = ⟨vs⟩ := by
  cases g with
  | true => obtain ⟨vs, h1, rfl⟩ := agg_conc h; exact ⟨vs, h1, rfl⟩
  | false =>
    simp only [V.conc, comp] at h
    cases hl : concs η l with
    | none => simp [hl] at h
    | some vs =>
      match vs, hl with
      | [u], hl =>
        simp [hl] at h; subst h
        refine ⟨[u], rfl, ?_⟩
        have : ∀ cs, u ≠ .agg cs := by
          intro cs e
          subst e
          cases l with
          | nil => simp [concs] at hl
          | cons a l =>
            simp only [concs] at hl
            cases ha : a.conc η with
            | none => simp [ha] at hl
            | some v => cases hl' : concs η l with
              | none => simp [ha, hl'] at hl
              | some ws => simp [ha, hl'] at hl; obtain ⟨rfl, _⟩ := hl; have := At.conc_one ha; cases this
        cases u <;> first | rfl | exact absurd rfl (this _)
      | [], hl => simp [hl] at h
      | _ :: _ :: _, hl => simp [hl] at h

end
end Go.Proofs.YtphpkalbbmlgoaaGreatDoor.Ev

namespace Go.Proofs.YtphpkalbbmlgoaaGreatDoor.Ev
open Go
noncomputable section

theorem fillA_ok {η : Env} {place : Nat → Option (Nat × Nat)} : ∀ (ps : List (Nat × V)) (cps : List (Nat × Value)) (cells l : List At) (cs : List Value), fillA place cells ps = some l → concs η cells = some cs → PL η ps cps →
    ∃ ls, concs η l = some ls ∧ Instr.fill place ⟨cs⟩ cps = some ⟨ls⟩ := by
  intro ps
  induction ps with
  | nil =>
    intro cps cells l cs h hc hp
    cases cps with
    | nil => simp [fillA] at h; subst h; exact ⟨cs, hc, rfl⟩
    | cons _ _ => exact hp.elim
  | cons p ps ih =>
    intro cps cells l cs h hc hp
    cases cps with
    | nil => exact hp.elim
    | cons cp cps =>
      obtain ⟨i, v⟩ := p
      obtain ⟨j, c⟩ := cp
      obtain ⟨rfl, hv, hp⟩ := hp
      cases v with
      | tup _ => simp [fillA] at h
      | c g xs =>
        simp only [fillA] at h
        cases hpl : place i with
        | none => simp [hpl] at h
        | some os =>
          obtain ⟨off, size⟩ := os
          simp only [hpl] at h
          split at h
          · rename_i h1 h2
            obtain ⟨xv, hx, hcell⟩ := cells_conc hv
            have hl1 := concs_length _ _ hx
            have hl2 := concs_length _ _ hc
            have h1 := Nat.eq_of_beq_eq_true h1
            have h2 := Nat.le_of_ble_eq_true h2
            have hset : concs η (lset cells off xs) = some (cs.take off ++ xv ++ cs.drop (off + xs.length)) :=
              concs_append _ _ _ _ (concs_append _ _ _ _ (concs_take _ _ off hc) hx) (concs_drop _ _ _ hc)
            obtain ⟨ls, h3, h4⟩ := ih cps _ l _ h hset hp
            refine ⟨ls, h3, ?_⟩
            simp only [Instr.fill, hpl, hcell]
            have e1 : (⟨xv⟩ : Array Value).size = size := by show xv.length = size; omega
            have e2 : ¬ (off + (⟨xv⟩ : Array Value).size > (⟨cs⟩ : Array Value).size) := by show ¬ (off + xv.length > cs.length); omega
            rw [if_neg (by simp only [e1, ne_eq, not_true, decide_false, Bool.false_or, decide_eq_true_eq]; rw [e1] at e2; exact e2)]
            rw [← h4]
            congr 1
            have hf := foldl_set off xv 0 ⟨cs⟩ (by show off + 0 + xv.length ≤ cs.length; omega)
            apply Array.ext'
            have e3 : (Array.foldl (fun cs (x : Value × Nat) => cs.setIfInBounds (off + x.2) x.1) (⟨cs⟩ : Array Value) (⟨xv⟩ : Array Value).zipIdx) = ((xv.zipIdx 0).foldl (fun cs (p : Value × Nat) => cs.setIfInBounds (off + p.2) p.1) (⟨cs⟩ : Array Value)) := by
              rw [← Array.foldl_toList]; simp
            have e4 := congrArg Array.toList e3
            rw [hf] at e4
            simp only [Nat.add_zero, hl1] at e4
            simpa [hl1] using e4
          · cases h

def plcs (fields : Array Field) : Sem (Array (Nat × Nat)) := fields.mapM fun f => do pure (f.offset, ← sizeOf f.type)

def zeroA (P : Program) (t : TypeId) : Option (Bool × List At) :=
  match P.info? t with
  | some i => match i.zero with | some z => absC z | none => none
  | none => none

theorem zeroA_ok {P : Program} {t : TypeId} {g : Bool} {l : List At} (h : zeroA P t = some (g, l)) (η : Env) (w : World) : ∃ z, comp η g l = some z ∧ (zeroValue t).run P w = .ok z w := by
  unfold zeroA at h
  split at h
  · rename_i i hi
    split at h
    · rename_i z hz
      exact ⟨z, absC_conc η h, by simp [zeroValue, run_ti hi, hz]⟩
    · cases h
  · cases h

def evParts (P : Program) (tm : Tr V) : List (Nat × Operand) → Option (List (Nat × V))
  | [] => some []
  | (i, x) :: l => match evO P tm x with
    | some v => match evParts P tm l with | some r => some ((i, v) :: r) | none => none
    | none => none

theorem evParts_ok {P : Program} {η : Env} {tm : Tr V} {A : Act} (ra : RA η tm A.tmps) (hg : η.glob P) : ∀ (l : List (Nat × Operand)) (vs : List (Nat × V)), evParts P tm l = some vs → PL η vs (l.map fun (i, x) => (i, A.eval x)) := by
  intro l
  induction l with
  | nil => intro vs h; simp [evParts] at h; subst h; trivial
  | cons p l ih =>
    obtain ⟨i, x⟩ := p
    intro vs h
    simp only [evParts] at h
    cases hx : evO P tm x with
    | none => simp [hx] at h
    | some v => cases hl : evParts P tm l with
      | none => simp [hx, hl] at h
      | some r => simp [hx, hl] at h; subst h; exact ⟨rfl, evO_ok ra hg hx, ih r hl⟩

def evBuild (P : Program) (t : TypeId) (ps : List (Nat × V)) : Option V :=
  match zeroA P t, P.underlying t with
  | some (_, z), some (.struct fs) => match runA P (plcs fs) with
    | some pl => match fillA (pl[·]?) z ps with | some l => some (.c true l) | none => none
    | none => none
  | some (_, z), some (.array _ e) => match P.info? e with
    | some i => match fillA (fun k => some (k * i.size, i.size)) z ps with | some l => some (.c true l) | none => none
    | none => none
  | _, _ => none

theorem evBuild_ok {P : Program} {t : TypeId} {ps : List (Nat × V)} {v : V} (h : evBuild P t ps = some v) {η : Env} {w : World} {cps : Array (Nat × Value)} (hp : PL η ps cps.toList) :
    ∃ cv, v.conc η = some cv ∧ (Instr.build t cps).run P w = .ok cv w := by
  unfold evBuild at h
  split at h
  · rename_i g z fs hz hu
    obtain ⟨zv, hz1, hz2⟩ := zeroA_ok hz η w
    obtain ⟨zs, hz3, hz4⟩ := cells_conc (g := g) hz1
    split at h
    · rename_i pl hpl
      split at h
      · rename_i l hl
        cases h
        obtain ⟨ls, h1, h2⟩ := fillA_ok ps cps.toList z l zs hl hz3 hp
        refine ⟨.agg ⟨ls⟩, by simp [V.conc, comp, h1], ?_⟩
        have hpl' := runA_run hpl w
        simp only [plcs] at hpl'
        simp only [Instr.build, Sem.run_bind, hz2, Result.andThen_ok, run_und hu, hpl', hz4, h2, Sem.run_pure]
      · cases h
    · cases h
  · rename_i g z n e hz hu
    obtain ⟨zv, hz1, hz2⟩ := zeroA_ok hz η w
    obtain ⟨zs, hz3, hz4⟩ := cells_conc (g := g) hz1
    split at h
    · rename_i i hi
      split at h
      · rename_i l hl
        cases h
        obtain ⟨ls, h1, h2⟩ := fillA_ok ps cps.toList z l zs hl hz3 hp
        refine ⟨.agg ⟨ls⟩, by simp [V.conc, comp, h1], ?_⟩
        simp only [Instr.build, Sem.run_bind, hz2, Result.andThen_ok, run_und hu, run_size hi, hz4, h2, Sem.run_pure]
      · cases h
    · cases h
  · cases h

theorem runA_bind (P : Program) {α β : Type} (s : Sem α) (f : α → Sem β) : runA P (s >>= f) = (runA P s).bind (fun x => runA P (f x)) := by
  show runA P (s.bind f) = _
  induction s with
  | pure a => rfl
  | program k ih => exact ih P
  | mark m k ih => exact ih
  | _ => rfl

def flatMs : List Ent → Option (List MapEntry)
  | [] => some []
  | (k, _, born) :: l => match comp Env.void k.1 k.2, flatMs l with
    | some kv, some r => some (⟨kv, .nilFunc, born⟩ :: r)
    | _, _ => none

inductive SameK : List MapEntry → List MapEntry → Prop where
  | nil : SameK [] []
  | cons {k u v : Value} {n : Nat} {l m : List MapEntry} (h : SameK l m) : SameK (⟨k, u, n⟩ :: l) (⟨k, v, n⟩ :: m)

theorem flatMs_ok {η : Env} : ∀ {es : List Ent} {ms ms0 : List MapEntry}, Ents η es ms → flatMs es = some ms0 → SameK ms0 ms := by
  intro es ms ms0 h
  induction h generalizing ms0 with
  | nil => intro h; simp [flatMs] at h; subst h; exact .nil
  | cons hk hv _ ih =>
    rename_i k v born ck cv es' ms' _
    intro h
    simp only [flatMs] at h
    cases hkv : comp Env.void k.1 k.2 with
    | none => simp [hkv] at h
    | some kv => cases hl : flatMs es' with
      | none => simp [hkv, hl] at h
      | some r =>
        simp [hkv, hl] at h; subst h
        have := comp_mono (Env.void_le η) hkv
        rw [hk] at this; cases this
        exact .cons (ih hl)

def reval (ms : List MapEntry) (i : Nat) : Option (Nat × Value) → Option (Nat × Value)
  | none => none
  | some (j, v) => some (j, ((ms[j - i]?).map (·.val)).getD v)

theorem findNow_same (kind : TypeDesc) (k : Value) : ∀ {ms0 ms : List MapEntry}, SameK ms0 ms → ∀ i r0, Instr.findNow kind k ms0 i = r0 →
    (r0 = none → Instr.findNow kind k ms i = none) ∧ (∀ x, r0 = some x → Instr.findNow kind k ms i = some (reval ms i x) ∧ ∀ j v, x = some (j, v) → i ≤ j ∧ j - i < ms.length) := by
  intro ms0 ms h
  induction h with
  | nil => intro i r0 h0; subst h0; simp [Instr.findNow, reval]
  | cons hs ih =>
    rename_i kk u v n l m
    intro i r0 h0
    subst h0
    simp only [Instr.findNow]
    cases hn : Instr.sameNow kind k kk with
    | none => simp
    | some b =>
      cases b with
      | true => simp [reval]
      | false =>
        obtain ⟨h1, h2⟩ := ih (i + 1) _ rfl
        refine ⟨h1, fun x hx => ?_⟩
        obtain ⟨h3, h4⟩ := h2 x hx
        simp only [h3]
        cases x with
        | none => simp [reval]
        | some p =>
          obtain ⟨j, pv⟩ := p
          obtain ⟨h5, h6⟩ := h4 j pv rfl
          have e : j - i = (j - (i + 1)) + 1 := by omega
          refine ⟨by simp only [reval, e, List.getElem?_cons_succ], fun j' v' he => ?_⟩
          cases he
          exact ⟨by omega, by simp; omega⟩

theorem findAsking_same (P : Program) (kt : TypeId) (k : Value) : ∀ {ms0 ms : List MapEntry}, SameK ms0 ms → ∀ i x, runA P (Instr.findAsking kt k ms0 i) = some x →
    runA P (Instr.findAsking kt k ms i) = some (reval ms i x) ∧ ∀ j v, x = some (j, v) → i ≤ j ∧ j - i < ms.length := by
  intro ms0 ms h
  induction h with
  | nil => intro i x h0; simp [Instr.findAsking, runA, pure] at h0; subst h0; exact ⟨rfl, fun j v e => by cases e⟩
  | cons hs ih =>
    rename_i kk u v n l m
    intro i x h0
    simp only [Instr.findAsking, runA_bind] at h0 ⊢
    cases hq : runA P (Op.equal kt k kk) with
    | none => simp [hq] at h0
    | some b =>
      simp only [hq, Option.bind_some] at h0 ⊢
      cases b with
      | true =>
        simp [runA, pure] at h0; subst h0
        exact ⟨by simp [runA, pure, reval], fun j v' e => by cases e; exact ⟨Nat.le_refl _, by simp⟩⟩
      | false =>
        simp only [Bool.false_eq_true, if_false] at h0 ⊢
        obtain ⟨h3, h4⟩ := ih (i + 1) x h0
        rw [h3]
        cases x with
        | none => exact ⟨rfl, fun j v e => by cases e⟩
        | some p =>
          obtain ⟨j, pv⟩ := p
          obtain ⟨h5, h6⟩ := h4 j pv rfl
          have e : j - i = (j - (i + 1)) + 1 := by omega
          refine ⟨by simp only [reval, e, List.getElem?_cons_succ], fun j' v' he => ?_⟩
          cases he
          exact ⟨by omega, by simp; omega⟩

theorem findKey_same (P : Program) (kt : TypeId) (k : Value) {ms0 ms : List MapEntry} (hs : SameK ms0 ms) {x : Option (Nat × Value)} (h : runA P (Instr.findKey kt k ms0) = some x) :
    runA P (Instr.findKey kt k ms) = some (reval ms 0 x) ∧ ∀ j v, x = some (j, v) → j < ms.length := by
  unfold Instr.findKey at h ⊢
  simp only [runA_bind] at h ⊢
  cases hu : runA P (underlying kt) with
  | none => simp [hu] at h
  | some d =>
    simp only [hu, Option.bind_some] at h ⊢
    obtain ⟨h1, h2⟩ := findNow_same d k hs 0 _ rfl
    cases hf : Instr.findNow d k ms0 0 with
    | none =>
      simp only [hf] at h
      rw [h1 hf]
      obtain ⟨h3, h4⟩ := findAsking_same P kt k hs 0 x h
      exact ⟨h3, fun j v e => by have := (h4 j v e).2; simpa using this⟩
    | some y =>
      simp only [hf] at h
      simp [runA, pure] at h; subst h
      obtain ⟨h3, h4⟩ := h2 y hf
      rw [h3]
      exact ⟨rfl, fun j v e => by have := (h4 j v e).2; simpa using this⟩

theorem Ents.get {η : Env} {es : List Ent} {ms : List MapEntry} (h : Ents η es ms) : ∀ (i : Nat) (k v : Bool × List At) (n : Nat), es[i]? = some (k, v, n) → ∃ ck cv, ms[i]? = some ⟨ck, cv, n⟩ ∧ comp η k.1 k.2 = some ck ∧ comp η v.1 v.2 = some cv := by
  induction h with
  | nil => intro i k v n hi; simp at hi
  | cons hk hv _ ih =>
    intro i k v n hi
    cases i with
    | zero => simp at hi; obtain ⟨rfl, rfl, rfl⟩ := hi; exact ⟨_, _, rfl, hk, hv⟩
    | succ i => simpa using ih i k v n (by simpa using hi)

def evFind (P : Program) (kt : TypeId) (k : V) (es : List Ent) (empty : Bool) : Option (Option Nat) :=
  match k.conc Env.void, flatMs es with
  | some kv, some ms0 => match runA P (Instr.checkKey empty 10000 kt kv) with
    | some _ => match runA P (Instr.findKey kt kv ms0) with
      | some (some (i, _)) => some (some i)
      | some none => some none
      | none => none
    | none => none
  | _, _ => none

theorem evFind_ok {P : Program} {kt : TypeId} {k : V} {es : List Ent} {empty : Bool} {r : Option Nat} (h : evFind P kt k es empty = some r) {η : Env} {w : World} {ms : List MapEntry} (hms : Ents η es ms) {ck : Value} (hk : k.conc η = some ck) :
    (Instr.checkKey empty 10000 kt ck).run P w = .ok () w ∧
    (match r with
     | some i => ∃ e, ms[i]? = some e ∧ (Instr.findKey kt ck ms).run P w = .ok (some (i, e.val)) w
     | none => (Instr.findKey kt ck ms).run P w = .ok none w) := by
  unfold evFind at h
  split at h
  · rename_i kv ms0 hkv hfl
    have := V.conc_mono (Env.void_le η) hkv
    rw [hk] at this; cases this
    split at h
    · rename_i u hck
      refine ⟨runA_run (x := ()) hck w, ?_⟩
      have hs := flatMs_ok hms hfl
      split at h
      · rename_i i v hf
        cases h
        obtain ⟨h1, h2⟩ := findKey_same P kt ck hs hf
        have hlt := h2 i v rfl
        refine ⟨ms[i], by simp [hlt], ?_⟩
        have := runA_run h1 w
        simpa [reval, hlt] using this
      · rename_i hf
        cases h
        obtain ⟨h1, _⟩ := findKey_same P kt ck hs hf
        exact runA_run h1 w
      · cases h
    · cases h
  · cases h

def okV (ok : Bool) (v : Bool × List At) (b : Bool) : V := bif ok then .tup [v, (false, [.bool b])] else .c v.1 v.2

theorem okV_conc {η : Env} {ok b : Bool} {v : Bool × List At} {cv : Value} (h : comp η v.1 v.2 = some cv) : (okV ok v b).conc η = some (if ok then .tuple #[cv, .bool b] else cv) := by
  cases ok with
  | true =>
    have h2 : comp η false [.bool b] = some (.bool b) := rfl
    simp [okV, V.conc, comps, h, h2]
  | false => simp [okV, V.conc, h]

def evLookup (P : Program) (H : Tr AObj) (t : TypeId) (m : At) (k : V) (ok : Bool) : Option V :=
  match P.underlying t, m with
  | some (.map kt et), .map b => match H.get b with
    | some (.map es _) => match evFind P kt k es es.isEmpty with
      | some (some i) => match es[i]? with | some (_, v, _) => some (okV ok v true) | none => none
      | some none => match zeroA P et with | some z => some (okV ok z false) | none => none
      | none => none
    | _ => none
  | _, _ => none

theorem Ents.empty {η : Env} {es : List Ent} {ms : Array MapEntry} (h : Ents η es ms.toList) : ms.isEmpty = es.isEmpty := by
  have := h.length
  rw [Bool.eq_iff_iff]
  simp only [Array.isEmpty_iff, List.isEmpty_iff]
  rw [← List.length_eq_zero_iff, ← this]
  simp

theorem evLookup_ok {P : Program} {H : Tr AObj} {t : TypeId} {m : At} {k : V} {ok : Bool} {v : V} (hv : evLookup P H t m k ok = some v) {η : Env} {hp : Hp} {w : World} (ext : ∀ b o, H.get b = some o → hp b = some o) (rh : RH η hp w)
    {cm ck : Value} (hm : m.conc η = some cm) (hk : k.conc η = some ck) : ∃ cv, v.conc η = some cv ∧ (Instr.lookup t cm ck ok).run P w = .ok cv w := by
  unfold evLookup at hv
  split at hv
  · rename_i kt et b hu
    obtain ⟨B, hB, rfl⟩ := conc_map hm
    split at hv
    · rename_i es clock ho
      obtain ⟨B', co, hB', hw, ms, rfl, hms⟩ := rh.live b _ (ext b _ ho)
      obtain rfl : B = B' := Option.some.inj (hB.symm.trans hB')
      have hg : (getObj B.1).run P w = .ok (.map ms clock) w := by simp [getObj, Sem.run, hw]
      split at hv
      · rename_i i hf
        obtain ⟨h1, e, h2, h3⟩ := evFind_ok hf (w := w) hms hk
        split at hv
        · rename_i kk vv n hi
          cases hv
          obtain ⟨ck', cv', h4, h5, h6⟩ := hms.get i kk vv n hi
          rw [h2] at h4; cases h4
          refine ⟨_, okV_conc h6, ?_⟩
          rw [← hms.empty] at h1
          simp [Instr.lookup, run_und hu, hg, h1, h3]
        · cases hv
      · rename_i hf
        obtain ⟨h1, h3⟩ := evFind_ok hf (w := w) hms hk
        split at hv
        · rename_i z hz
          cases hv
          obtain ⟨zv, hz1, hz2⟩ := zeroA_ok (g := z.1) (l := z.2) hz η w
          refine ⟨_, okV_conc hz1, ?_⟩
          rw [← hms.empty] at h1
          simp [Instr.lookup, run_und hu, hg, h1, h3, hz2]
        · cases hv
      · cases hv
    · cases hv
  · cases hv

end
end Go.Proofs.YtphpkalbbmlgoaaGreatDoor.Ev

namespace Go.Proofs.YtphpkalbbmlgoaaGreatDoor.Ev
open Go
noncomputable section

def evOpt (P : Program) (tm : Tr V) : Option Operand → Option (Option At)
  | none => some none
  | some x => match evO P tm x with | some (.c false [a]) => some (some a) | _ => none

theorem evOpt_ok {P : Program} {η : Env} {tm : Tr V} {A : Act} (ra : RA η tm A.tmps) (hg : η.glob P) {x : Option Operand} {a : Option At} (h : evOpt P tm x = some a) : optC η a (x.map A.eval) := by
  cases x with
  | none => simp [evOpt] at h; subst h; trivial
  | some x =>
    simp only [evOpt] at h
    split at h
    · rename_i b hb; cases h; exact evO_one ra hg hb
    · cases h

def evBin (P : Program) (o : Oper) (tm : Tr V) (H : Tr AObj) (neg : Bool) (t : TypeId) (x y : Operand) : Option V :=
  match evO P tm x, evO P tm y with
  | some (.c false [a]), some (.c false [b]) => match evEq P H t a b with
    | some r => some (.one (.bool (Bool.xor neg r)))
    | none => evPure P o tm
  | _, _ => evPure P o tm

def evNext (H : Tr AObj) (x : At) (isString : Bool) : Option V :=
  match x, isString with
  | .ptr i 0, false => match H.get i with
    | some (.mit m) => match H.get m with
      | some (.map [] _) => some (.tup [(false, [.bool false])])
      | _ => none
    | _ => none
  | _, _ => none

theorem evNext_ok {P : Program} {H : Tr AObj} {x : At} {isS : Bool} {v : V} (hv : evNext H x isS = some v) {η : Env} {hp : Hp} {w : World} (ext : ∀ b o, H.get b = some o → hp b = some o) (rh : RH η hp w)
    {cx : Value} (hx : x.conc η = some cx) (ty : TypeId) : ∃ cv, v.conc η = some cv ∧ (Instr.next cx isS ty).run P w = .ok cv w := by
  unfold evNext at hv
  split at hv
  · rename_i i
    obtain ⟨B, hB, rfl⟩ := conc_ptr hx
    split at hv
    · rename_i m hi
      split at hv
      · rename_i clock hm
        cases hv
        obtain ⟨B', co, hB', hw, h0, M, since, st, hM, rfl⟩ := rh.live i _ (ext i _ hi)
        obtain rfl : B = B' := Option.some.inj (hB.symm.trans hB')
        obtain ⟨M', co', hM', hw', ms, rfl, hms⟩ := rh.live m _ (ext m _ hm)
        obtain rfl : M = M' := Option.some.inj (hM.symm.trans hM')
        have hms0 : ms = #[] := by
          have := hms.length
          simpa using this
        subst hms0
        refine ⟨.tuple #[.bool false], rfl, ?_⟩
        have e : adr B 0 = ⟨B.1, 0, none⟩ := by simp [adr, h0]
        rw [e]
        simp [Instr.next, getObj, Sem.run, hw, hw', choose, Question.forced]
      · cases hv
    · cases hv
  · cases hv

def byteOf : At → Option UInt8
  | .int .u8 (.ofNat k) => match Nat.blt k 256 with | true => some (UInt8.ofNat k) | false => none
  | _ => none

def bytesOf : List At → Option (List UInt8)
  | [] => some []
  | a :: l => match byteOf a, bytesOf l with
    | some b, some bs => some (b :: bs)
    | _, _ => none

def b2s (H : Tr AObj) (b o n : Nat) : Option V :=
  match n with
  | 0 => some (.one (.str []))
  | n + 1 => match row H b o (n + 1) with
    | some l => match bytesOf l with
      | some bs => some (.one (.str bs))
      | none => none
    | none => none

def evB2S (P : Program) (H : Tr AObj) (s t : TypeId) (x : At) : Option V :=
  match P.underlying s, P.underlying t with
  | some (.slice e), some .string => match P.underlying e with
    | some (.int .u8) => match x with
      | .nils => some (.one (.str []))
      | .emp _ => some (.one (.str []))
      | .sl b o n _ => b2s H b o n
      | .slx b o n _ => b2s H b o n
      | _ => none
    | _ => none
  | _, _ => none

theorem byteOf_conc {a : At} {b : UInt8} (h : byteOf a = some b) (η : Env) : a.conc η = some (.int .u8 (b.toNat : Int)) := by
  unfold byteOf at h
  split at h
  · rename_i k
    split at h
    · rename_i hk
      cases h
      have hk : k < 256 := Nat.le_of_ble_eq_true hk
      simp only [At.conc]
      congr 2
      show ((k : Nat) : Int) = _
      rw [UInt8.toNat_ofNat']
      congr 1; omega
    · cases h
  · cases h

theorem bytesOf_conc (η : Env) : ∀ {l : List At} {bs : List UInt8}, bytesOf l = some bs → concs η l = some (bs.map fun b => Value.int .u8 (b.toNat : Int))
  | [], bs, h => by cases h; rfl
  | a :: l, bs, h => by
    simp only [bytesOf] at h
    split at h
    · rename_i b bs' hb hl
      cases h
      simp [concs, byteOf_conc hb η, bytesOf_conc η hl]
    · cases h

theorem evB2S_ok {P : Program} {H : Tr AObj} {s t : TypeId} {x : At} {v : V} (he : evB2S P H s t x = some v) {η : Env} {h : Hp} {w : World} (ext : ∀ b o, H.get b = some o → h b = some o) (rh : RH η h w) {cx : Value} (hx : x.conc η = some cx) :
    ∃ cv, v.conc η = some cv ∧ (convert s t cx).run P w = .ok cv w := by
  unfold evB2S at he
  split at he
  · rename_i e hs ht
    split at he
    · rename_i hE
      have zero : ∀ (a : Addr) (c : Nat), (convert s t (.slice (some a) 0 c)).run P w = .ok (.string ⟨⟨[]⟩⟩) w := fun a c => run_convert_bytes_back w s t e a c [] hs hE ht (fun j hj => by cases hj)
      have key : ∀ (b o n c : Nat) (B : Nat × Nat), η.blk b = some B → b2s H b o n = some v → ∃ cv, v.conc η = some cv ∧ (convert s t (.slice (some (adr B o)) n c)).run P w = .ok cv w := by
        intro b o n c B hB hv
        unfold b2s at hv
        split at hv
        · cases hv; exact ⟨_, one_conc.2 rfl, zero _ _⟩
        · rename_i m
          split at hv
          · rename_i l hr
            split at hv
            · rename_i bs hbs
              cases hv
              obtain ⟨B', vs, C, E, hrow, hvs, hlen, hcell⟩ := row_ok ext rh hr
              obtain rfl : B = B' := Option.some.inj (hB.symm.trans hrow.blk)
              rw [bytesOf_conc η hbs] at hvs
              have hvs := Option.some.inj hvs
              have hbl : bs.length = m + 1 := by rw [← hlen, ← concs_length _ _ (bytesOf_conc η hbs)]; simp
              refine ⟨_, one_conc.2 rfl, ?_⟩
              rw [show Nat.succ m = bs.length from hbl.symm]
              exact run_convert_bytes_back w s t e (adr B o) c bs hs hE ht (fun j hj => hcell j _ (by rw [← hvs]; simp [hj]))
            · cases hv
          · cases hv
      split at he
      · cases he
        simp only [At.conc] at hx; cases hx
        refine ⟨_, one_conc.2 rfl, ?_⟩
        rw [run_convert_bytes_string w s t e none 0 0 hs hE ht]
        simp [Conv.bytesToString]; rfl
      · cases he
        obtain ⟨a, c, _, rfl⟩ := conc_emp hx
        exact ⟨_, one_conc.2 rfl, zero _ _⟩
      · obtain ⟨B, hB, rfl⟩ := conc_sl hx
        exact key _ _ _ _ B hB he
      · obtain ⟨B, hB, rfl⟩ := conc_slx hx
        exact key _ _ _ _ B hB he
      · cases he
    · cases he
  · cases he

def evR (P : Program) (o : Oper) (tm : Tr V) (H : Tr AObj) : Option V :=
  match o.op with
  | .move x => evO P tm x
  | .assign x => evO P tm x
  | .pick c a b => match evO P tm c with
    | some (.c false [.bool t]) => match t with | true => evO P tm a | false => evO P tm b
    | _ => none
  | .load t a => match evO P tm a with | some (.c false [x]) => evLoad P H t x | _ => none
  | .nilCheck x => match evO P tm x with
    | some (.c false [.ptr b n]) => some (.one (.ptr b n))
    | some (.c false [.fn f l0 l]) => some (.one (.fn f l0 l))
    | _ => none
  | .binOp .eql t x y _ => evBin P o tm H false t x y
  | .binOp .neq t x y _ => evBin P o tm H true t x y
  | .makeFunc fn first captured => evMakeFunc P tm fn first captured
  | .slice t x lo hi mx => match evO P tm x with
    | some (.c false [a]) => match evOpt P tm lo, evOpt P tm hi, evOpt P tm mx with
      | some l, some h, some m => match evSlice P H t a l h m with
        | some v => some v
        | none => evPure P o tm
      | _, _, _ => none
    | _ => none
  | .fieldAddr s x f => match evO P tm x with | some (.c false [a]) => evFieldAddr P s a f | _ => none
  | .field t x f => match evO P tm x with | some v => evField P t v f | none => none
  | .indexAddr t x i => match evO P tm x, evO P tm i with
    | some (.c false [a]), some (.c false [b]) => evIndexAddr P t a b
    | _, _ => none
  | .lookup t m k ok => match evO P tm m, evO P tm k with
    | some (.c false [a]), some v => match evLookup P H t a v ok with
      | some r => some r
      | none => evPure P o tm
    | _, _ => none
  | .extract x i => match evO P tm x with | some v => evExtract v i | none => none
  | .next x s => match evO P tm x with | some (.c false [a]) => evNext H a s | _ => none
  | .build t ps => match evParts P tm ps.toList with | some l => evBuild P t l | none => none
  | .call c => match c.callee with
    | .builtin .len => match c.args.toList, c.argTypes.toList with
      | [x], t :: _ => match evO P tm x with
        | some (.c false [a]) => match evLen P H t a with
          | some r => some r
          | none => evPure P o tm
        | _ => evPure P o tm
      | _, _ => none
    | .builtin .cap => match c.args.toList, c.argTypes.toList with
      | [x], t :: _ => match evO P tm x with
        | some (.c false [a]) => match evCap P t a with
          | some r => some r
          | none => evPure P o tm
        | _ => evPure P o tm
      | _, _ => none
    | .builtin .min => evPure P o tm
    | .builtin .max => evPure P o tm
    | _ => none
  | .binOp _ _ _ _ _ => evPure P o tm
  | .unOp _ _ _ => evPure P o tm
  | .convert s t x => match evO P tm x with
    | some (.c false [a]) => match evB2S P H s t a with
      | some r => some r
      | none => evPure P o tm
    | _ => evPure P o tm
  | .index _ _ _ => evPure P o tm
  | _ => none

theorem evBin_ok {P : Program} {dst : Option Tmp} {type yt : TypeId} {pos : String} {after : Array Edge} {guard : Option (Nat × Bool)} {neg : Bool} {t : TypeId} {x y : Operand} {tm : Tr V} {H : Tr AObj} {v : V}
    (h : evBin P ⟨dst, .binOp (if neg then .neq else .eql) t x y yt, type, pos, after, guard⟩ tm H neg t x y = some v) : Reads1 P ⟨dst, .binOp (if neg then .neq else .eql) t x y yt, type, pos, after, guard⟩ tm H v := by
  intro η hp w A ext rh ra hg
  unfold evBin at h
  split at h
  · rename_i a b ha hb
    split at h
    · rename_i r hr
      cases h
      obtain ⟨h1, h2, h3, h4⟩ := evEq_ok hr ext rh (evO_one ra hg ha) (evO_one ra hg hb)
      refine ⟨.bool (Bool.xor neg r), one_conc.2 rfl, ?_⟩
      cases neg with
      | false => simp [execOp, h2, h3, h1]
      | true => simp [execOp, h2, h4, h1]
    · exact evPure_ok h ra hg w
  · exact evPure_ok h ra hg w

theorem run_builtin {P : Program} {b : Builtin} {dst : Option Tmp} {type : TypeId} {pos : String} {after : Array Edge} {guard : Option (Nat × Bool)} {args : Array Operand} {ts : Array TypeId} (ρ : Operand → Value) (w : World) :
    (execOp ρ ⟨dst, .call ⟨.builtin b, args, ts⟩, type, pos, after, guard⟩).run P w = (builtin b ts type (args.map fun | .const _ => true | _ => false) (args.map ρ)).run P w := by
  simp only [execOp, resolve, Sem.run_bind, Sem.run_pure, Result.andThen_ok, invoke]
  rfl

theorem evR_ok {P : Program} {o : Oper} {tm : Tr V} {H : Tr AObj} {v : V} (h : evR P o tm H = some v) : Reads1 P o tm H v := by
  obtain ⟨dst, op, type, pos, after, guard⟩ := o
  intro η hp w A ext rh ra hg
  cases op <;> simp only [evR] at h
  case move x => exact ⟨_, evO_ok ra hg h, by simp [execOp]⟩
  case assign x => exact ⟨_, evO_ok ra hg h, by simp [execOp]⟩
  case pick c a b =>
    split at h
    · rename_i t hc
      have h1 := evO_one ra hg hc
      simp only [At.conc] at h1
      have h1 := Option.some.inj h1
      cases t with
      | true => exact ⟨_, evO_ok ra hg h, by simp [execOp, ← h1, asBool]⟩
      | false => exact ⟨_, evO_ok ra hg h, by simp [execOp, ← h1, asBool]⟩
    · cases h
  case load t a =>
    split at h
    · rename_i x hx
      obtain ⟨cv, h1, h2⟩ := evLoad_ok h ext rh (evO_one ra hg hx)
      exact ⟨cv, h1, run_v h2⟩
    · cases h
  case nilCheck x =>
    split at h
    · rename_i b n hx
      cases h
      obtain ⟨B, hB, he⟩ := conc_ptr (evO_one ra hg hx)
      exact ⟨_, one_conc.2 (evO_one ra hg hx), by simp [execOp, he]⟩
    · rename_i f l0 l hx
      cases h
      obtain ⟨B, hB, he⟩ := conc_fn (evO_one ra hg hx)
      exact ⟨_, one_conc.2 (evO_one ra hg hx), by simp [execOp, he]⟩
    · cases h
  case binOp op t x y yt =>
    cases op
    case eql => exact evBin_ok (neg := false) h η hp w A ext rh ra hg
    case neq => exact evBin_ok (neg := true) h η hp w A ext rh ra hg
    all_goals exact evPure_ok h ra hg w
  case makeFunc fn first captured =>
    obtain ⟨cv, h1, h2⟩ := evMakeFunc_ok ra hg h w
    exact ⟨cv, h1, run_v h2⟩
  case slice t x lo hi mx =>
    split at h
    · rename_i a hx
      split at h
      · rename_i l h' m h1 h2 h3
        split at h
        · rename_i v' hv
          cases h
          obtain ⟨cv, h4, h5⟩ := evSlice_ok hv ext rh (evO_one ra hg hx) (evOpt_ok ra hg h1) (evOpt_ok ra hg h2) (evOpt_ok ra hg h3)
          exact ⟨cv, h4, run_v h5⟩
        · exact evPure_ok h ra hg w
      · cases h
    · cases h
  case fieldAddr s x f =>
    split at h
    · rename_i a hx
      obtain ⟨cv, h1, h2⟩ := evFieldAddr_ok h (w := w) (evO_one ra hg hx)
      exact ⟨cv, h1, run_v h2⟩
    · cases h
  case field t x f =>
    split at h
    · rename_i a hx
      obtain ⟨cv, h1, h2⟩ := evField_ok h (w := w) (evO_ok ra hg hx)
      exact ⟨cv, h1, run_v h2⟩
    · cases h
  case indexAddr t x i =>
    split at h
    · rename_i a b hx hi
      obtain ⟨cv, h1, h2⟩ := evIndexAddr_ok h (w := w) (evO_one ra hg hx) (evO_one ra hg hi)
      exact ⟨cv, h1, run_v h2⟩
    · cases h
  case lookup t m k ok =>
    split at h
    · rename_i a u hx hk
      split at h
      · rename_i r hr
        cases h
        obtain ⟨cv, h1, h2⟩ := evLookup_ok hr ext rh (evO_one ra hg hx) (evO_ok ra hg hk)
        exact ⟨cv, h1, run_v h2⟩
      · exact evPure_ok h ra hg w
    · cases h
  case extract x i =>
    split at h
    · rename_i a hx
      obtain ⟨cv, h1, h2⟩ := evExtract_ok (P := P) h (w := w) (evO_ok ra hg hx)
      exact ⟨cv, h1, run_v h2⟩
    · cases h
  case next x isS =>
    split at h
    · rename_i a hx
      obtain ⟨cv, h1, h2⟩ := evNext_ok (P := P) h ext rh (evO_one ra hg hx) type
      exact ⟨cv, h1, run_v h2⟩
    · cases h
  case build t ps =>
    split at h
    · rename_i l hl
      have hp' := evParts_ok ra hg _ _ hl
      obtain ⟨cv, h1, h2⟩ := evBuild_ok (P := P) h (w := w) (cps := ps.map fun (i, x) => (i, A.eval x)) (by simpa using hp')
      exact ⟨cv, h1, run_v h2⟩
    · cases h
  case call c =>
    obtain ⟨callee, args, ts⟩ := c
    simp only at h
    cases callee <;> (try simp only at h) <;> try (cases h; done)
    rename_i b
    cases b <;> (try simp only at h) <;> try (cases h; done)
    case cap =>
      split at h
      · rename_i x t ts' hargs hts
        split at h
        · rename_i a hx
          split at h
          · rename_i r hr
            cases h
            obtain ⟨cv, h1, h2⟩ := evCap_ok hr (w := w) (evO_one ra hg hx) ts type (by rw [← Array.getElem?_toList, hts]; rfl)
            refine ⟨cv, h1, ?_⟩
            rw [run_builtin]
            have : args.map A.eval = #[A.eval x] := by apply Array.ext'; simp [hargs]
            simp [builtin, this, h2]
          · exact evPure_ok h ra hg w
        · exact evPure_ok h ra hg w
      · cases h
    case len =>
      split at h
      · rename_i x t ts' hargs hts
        split at h
        · rename_i a hx
          split at h
          · rename_i r hr
            cases h
            obtain ⟨cv, h1, h2⟩ := evLen_ok hr ext rh (evO_one ra hg hx) ts type (by rw [← Array.getElem?_toList, hts]; rfl)
            refine ⟨cv, h1, ?_⟩
            rw [run_builtin]
            have : args.map A.eval = #[A.eval x] := by apply Array.ext'; simp [hargs]
            simp [builtin, this, h2]
          · exact evPure_ok h ra hg w
        · exact evPure_ok h ra hg w
      · cases h
    all_goals exact evPure_ok h ra hg w
  case convert s t x =>
    split at h
    · rename_i a hx
      split at h
      · rename_i r hr
        cases h
        obtain ⟨cv, h1, h2⟩ := evB2S_ok hr ext rh (evO_one ra hg hx)
        exact ⟨cv, h1, run_v h2⟩
      · exact evPure_ok h ra hg w
    · exact evPure_ok h ra hg w
  all_goals first
    | (cases h; done)
    | exact evPure_ok h ra hg w

end
end Go.Proofs.YtphpkalbbmlgoaaGreatDoor.Ev
