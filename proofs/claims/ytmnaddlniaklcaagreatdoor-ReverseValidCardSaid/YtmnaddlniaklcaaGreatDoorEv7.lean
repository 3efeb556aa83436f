/- An abstract interpreter of the model's code, seventh part: all operations that only read. -/
import Derived.Test.YtmnaddlniaklcaaGreatDoorEv6
namespace Go.Proofs.YtmnaddlniaklcaaGreatDoor.Ev
open Go
noncomputable section

def evOpt (P : Program) (tm : Tr V) : Option Operand → Option (Option At)
  | none => some none
  | some x => match evO P tm x with | some (.c false [a]) => some (some a) | _ => none
theorem evOpt_ok {P : Program} {η : Env} {tm : Tr V} {A : Act} (ra : RA η tm A.tmps) (hg : η.glob P) {x : Option Operand} {a : Option At} (h : evOpt P tm x = some a) : optC η a (x.map A.eval) := by
  cases x with
  | none => simp [evOpt] at h; subst h; trivial
  | some x =>
    simp only [evOpt] at h
    split at h
    · rename_i b hb; cases h; exact evO_one ra hg hb
    · cases h

def evBin (P : Program) (o : Oper) (tm : Tr V) (H : Tr AObj) (neg : Bool) (t : TypeId) (x y : Operand) : Option V :=
  match evO P tm x, evO P tm y with
  | some (.c false [a]), some (.c false [b]) => match evEq P H t a b with
    | some r => some (.one (.bool (Bool.xor neg r)))
    | none => evPure P o tm
  | _, _ => evPure P o tm

/-- The first step of a walk over an empty map. -/
def evNext (H : Tr AObj) (x : At) (isString : Bool) : Option V :=
  match x, isString with
  | .ptr i 0, false => match H.get i with
    | some (.mit m) => match H.get m with
      | some (.map [] _) => some (.tup [(false, [.bool false])])
      | _ => none
    | _ => none
  | _, _ => none
theorem evNext_ok {P : Program} {H : Tr AObj} {x : At} {isS : Bool} {v : V} (hv : evNext H x isS = some v) {η : Env} {hp : Hp} {w : World} (ext : ∀ b o, H.get b = some o → hp b = some o) (rh : RH η hp w)
    {cx : Value} (hx : x.conc η = some cx) (ty : TypeId) : ∃ cv, v.conc η = some cv ∧ (Instr.next cx isS ty).run P w = .ok cv w := by
  unfold evNext at hv
  split at hv
  · rename_i i
    obtain ⟨B, hB, rfl⟩ := conc_ptr hx
    split at hv
    · rename_i m hi
      split at hv
      · rename_i clock hm
        cases hv
        obtain ⟨B', co, hB', hw, h0, M, since, st, hM, rfl⟩ := rh.live i _ (ext i _ hi)
        obtain rfl : B = B' := Option.some.inj (hB.symm.trans hB')
        obtain ⟨M', co', hM', hw', ms, rfl, hms⟩ := rh.live m _ (ext m _ hm)
        obtain rfl : M = M' := Option.some.inj (hM.symm.trans hM')
        have hms0 : ms = #[] := by
          have := hms.length
          simpa using this
        subst hms0
        refine ⟨.tuple #[.bool false], rfl, ?_⟩
        have e : adr B 0 = ⟨B.1, 0, none⟩ := by simp [adr, h0]
        rw [e]
        simp [Instr.next, getObj, Sem.run, hw, hw', choose, Question.forced]
      · cases hv
    · cases hv
  · cases hv

def evR (P : Program) (o : Oper) (tm : Tr V) (H : Tr AObj) : Option V :=
  match o.op with
  | .move x => evO P tm x
  | .assign x => evO P tm x
  | .pick c a b => match evO P tm c with
    | some (.c false [.bool t]) => match t with | true => evO P tm a | false => evO P tm b
    | _ => none
  | .load t a => match evO P tm a with | some (.c false [x]) => evLoad P H t x | _ => none
  | .nilCheck x => match evO P tm x with
    | some (.c false [.ptr b n]) => some (.one (.ptr b n))
    | some (.c false [.fn f l0 l]) => some (.one (.fn f l0 l))
    | _ => none
  | .binOp .eql t x y _ => evBin P o tm H false t x y
  | .binOp .neq t x y _ => evBin P o tm H true t x y
  | .makeFunc fn first captured => evMakeFunc P tm fn first captured
  | .slice t x lo hi mx => match evO P tm x with
    | some (.c false [a]) => match evOpt P tm lo, evOpt P tm hi, evOpt P tm mx with
      | some l, some h, some m => match evSlice P H t a l h m with
        | some v => some v
        | none => evPure P o tm
      | _, _, _ => none
    | _ => none
  | .fieldAddr s x f => match evO P tm x with | some (.c false [a]) => evFieldAddr P s a f | _ => none
  | .field t x f => match evO P tm x with | some v => evField P t v f | none => none
  | .indexAddr t x i => match evO P tm x, evO P tm i with
    | some (.c false [a]), some (.c false [b]) => evIndexAddr P t a b
    | _, _ => none
  | .lookup t m k ok => match evO P tm m, evO P tm k with
    | some (.c false [a]), some v => match evLookup P H t a v ok with
      | some r => some r
      | none => evPure P o tm
    | _, _ => none
  | .extract x i => match evO P tm x with | some v => evExtract v i | none => none
  | .next x s => match evO P tm x with | some (.c false [a]) => evNext H a s | _ => none
  | .build t ps => match evParts P tm ps.toList with | some l => evBuild P t l | none => none
  | .call c => match c.callee with
    | .builtin .len => match c.args.toList, c.argTypes.toList with
      | [x], t :: _ => match evO P tm x with
        | some (.c false [a]) => match evLen P H t a with
          | some r => some r
          | none => evPure P o tm
        | _ => evPure P o tm
      | _, _ => none
    | .builtin .cap => match c.args.toList, c.argTypes.toList with
      | [x], t :: _ => match evO P tm x with
        | some (.c false [a]) => match evCap P t a with
          | some r => some r
          | none => evPure P o tm
        | _ => evPure P o tm
      | _, _ => none
    | .builtin .min => evPure P o tm
    | .builtin .max => evPure P o tm
    | _ => none
  | .binOp _ _ _ _ _ => evPure P o tm
  | .unOp _ _ _ => evPure P o tm
  | .convert _ _ _ => evPure P o tm
  | .index _ _ _ => evPure P o tm
  | _ => none

theorem evBin_ok {P : Program} {dst : Option Tmp} {type yt : TypeId} {pos : String} {after : Array Edge} {guard : Option (Nat × Bool)} {neg : Bool} {t : TypeId} {x y : Operand} {tm : Tr V} {H : Tr AObj} {v : V}
    (h : evBin P ⟨dst, .binOp (if neg then .neq else .eql) t x y yt, type, pos, after, guard⟩ tm H neg t x y = some v) : Reads1 P ⟨dst, .binOp (if neg then .neq else .eql) t x y yt, type, pos, after, guard⟩ tm H v := by
  intro η hp w A ext rh ra hg
  unfold evBin at h
  split at h
  · rename_i a b ha hb
    split at h
    · rename_i r hr
      cases h
      obtain ⟨h1, h2, h3, h4⟩ := evEq_ok hr ext rh (evO_one ra hg ha) (evO_one ra hg hb)
      refine ⟨.bool (Bool.xor neg r), one_conc.2 rfl, ?_⟩
      cases neg with
      | false => simp [execOp, h2, h3, h1]
      | true => simp [execOp, h2, h4, h1]
    · exact evPure_ok h ra hg w
  · exact evPure_ok h ra hg w

theorem run_builtin {P : Program} {b : Builtin} {dst : Option Tmp} {type : TypeId} {pos : String} {after : Array Edge} {guard : Option (Nat × Bool)} {args : Array Operand} {ts : Array TypeId} (ρ : Operand → Value) (w : World) :
    (execOp ρ ⟨dst, .call ⟨.builtin b, args, ts⟩, type, pos, after, guard⟩).run P w = (builtin b ts type (args.map fun | .const _ => true | _ => false) (args.map ρ)).run P w := by
  simp only [execOp, resolve, Sem.run_bind, Sem.run_pure, Result.andThen_ok, invoke]
  rfl

theorem evR_ok {P : Program} {o : Oper} {tm : Tr V} {H : Tr AObj} {v : V} (h : evR P o tm H = some v) : Reads1 P o tm H v := by
  obtain ⟨dst, op, type, pos, after, guard⟩ := o
  intro η hp w A ext rh ra hg
  cases op <;> simp only [evR] at h
  case move x => exact ⟨_, evO_ok ra hg h, by simp [execOp]⟩
  case assign x => exact ⟨_, evO_ok ra hg h, by simp [execOp]⟩
  case pick c a b =>
    split at h
    · rename_i t hc
      have h1 := evO_one ra hg hc
      simp only [At.conc] at h1
      have h1 := Option.some.inj h1
      cases t with
      | true => exact ⟨_, evO_ok ra hg h, by simp [execOp, ← h1, asBool]⟩
      | false => exact ⟨_, evO_ok ra hg h, by simp [execOp, ← h1, asBool]⟩
    · cases h
  case load t a =>
    split at h
    · rename_i x hx
      obtain ⟨cv, h1, h2⟩ := evLoad_ok h ext rh (evO_one ra hg hx)
      exact ⟨cv, h1, run_v h2⟩
    · cases h
  case nilCheck x =>
    split at h
    · rename_i b n hx
      cases h
      obtain ⟨B, hB, he⟩ := conc_ptr (evO_one ra hg hx)
      exact ⟨_, one_conc.2 (evO_one ra hg hx), by simp [execOp, he]⟩
    · rename_i f l0 l hx
      cases h
      obtain ⟨B, hB, he⟩ := conc_fn (evO_one ra hg hx)
      exact ⟨_, one_conc.2 (evO_one ra hg hx), by simp [execOp, he]⟩
    · cases h
  case binOp op t x y yt =>
    cases op
    case eql => exact evBin_ok (neg := false) h η hp w A ext rh ra hg
    case neq => exact evBin_ok (neg := true) h η hp w A ext rh ra hg
    all_goals exact evPure_ok h ra hg w
  case makeFunc fn first captured =>
    obtain ⟨cv, h1, h2⟩ := evMakeFunc_ok ra hg h w
    exact ⟨cv, h1, run_v h2⟩
  case slice t x lo hi mx =>
    split at h
    · rename_i a hx
      split at h
      · rename_i l h' m h1 h2 h3
        split at h
        · rename_i v' hv
          cases h
          obtain ⟨cv, h4, h5⟩ := evSlice_ok hv ext rh (evO_one ra hg hx) (evOpt_ok ra hg h1) (evOpt_ok ra hg h2) (evOpt_ok ra hg h3)
          exact ⟨cv, h4, run_v h5⟩
        · exact evPure_ok h ra hg w
      · cases h
    · cases h
  case fieldAddr s x f =>
    split at h
    · rename_i a hx
      obtain ⟨cv, h1, h2⟩ := evFieldAddr_ok h (w := w) (evO_one ra hg hx)
      exact ⟨cv, h1, run_v h2⟩
    · cases h
  case field t x f =>
    split at h
    · rename_i a hx
      obtain ⟨cv, h1, h2⟩ := evField_ok h (w := w) (evO_ok ra hg hx)
      exact ⟨cv, h1, run_v h2⟩
    · cases h
  case indexAddr t x i =>
    split at h
    · rename_i a b hx hi
      obtain ⟨cv, h1, h2⟩ := evIndexAddr_ok h (w := w) (evO_one ra hg hx) (evO_one ra hg hi)
      exact ⟨cv, h1, run_v h2⟩
    · cases h
  case lookup t m k ok =>
    split at h
    · rename_i a u hx hk
      split at h
      · rename_i r hr
        cases h
        obtain ⟨cv, h1, h2⟩ := evLookup_ok hr ext rh (evO_one ra hg hx) (evO_ok ra hg hk)
        exact ⟨cv, h1, run_v h2⟩
      · exact evPure_ok h ra hg w
    · cases h
  case extract x i =>
    split at h
    · rename_i a hx
      obtain ⟨cv, h1, h2⟩ := evExtract_ok (P := P) h (w := w) (evO_ok ra hg hx)
      exact ⟨cv, h1, run_v h2⟩
    · cases h
  case next x isS =>
    split at h
    · rename_i a hx
      obtain ⟨cv, h1, h2⟩ := evNext_ok (P := P) h ext rh (evO_one ra hg hx) type
      exact ⟨cv, h1, run_v h2⟩
    · cases h
  case build t ps =>
    split at h
    · rename_i l hl
      have hp' := evParts_ok ra hg _ _ hl
      obtain ⟨cv, h1, h2⟩ := evBuild_ok (P := P) h (w := w) (cps := ps.map fun (i, x) => (i, A.eval x)) (by simpa using hp')
      exact ⟨cv, h1, run_v h2⟩
    · cases h
  case call c =>
    obtain ⟨callee, args, ts⟩ := c
    simp only at h
    cases callee <;> (try simp only at h) <;> try (cases h; done)
    rename_i b
    cases b <;> (try simp only at h) <;> try (cases h; done)
    case cap =>
      split at h
      · rename_i x t ts' hargs hts
        split at h
        · rename_i a hx
          split at h
          · rename_i r hr
            cases h
            obtain ⟨cv, h1, h2⟩ := evCap_ok hr (w := w) (evO_one ra hg hx) ts type (by rw [← Array.getElem?_toList, hts]; rfl)
            refine ⟨cv, h1, ?_⟩
            rw [run_builtin]
            have : args.map A.eval = #[A.eval x] := by apply Array.ext'; simp [hargs]
            simp [builtin, this, h2]
          · exact evPure_ok h ra hg w
        · exact evPure_ok h ra hg w
      · cases h
    case len =>
      split at h
      · rename_i x t ts' hargs hts
        split at h
        · rename_i a hx
          split at h
          · rename_i r hr
            cases h
            obtain ⟨cv, h1, h2⟩ := evLen_ok hr ext rh (evO_one ra hg hx) ts type (by rw [← Array.getElem?_toList, hts]; rfl)
            refine ⟨cv, h1, ?_⟩
            rw [run_builtin]
            have : args.map A.eval = #[A.eval x] := by apply Array.ext'; simp [hargs]
            simp [builtin, this, h2]
          · exact evPure_ok h ra hg w
        · exact evPure_ok h ra hg w
      · cases h
    all_goals exact evPure_ok h ra hg w
  all_goals first
    | (cases h; done)
    | exact evPure_ok h ra hg w

end
end Go.Proofs.YtmnaddlniaklcaaGreatDoor.Ev
