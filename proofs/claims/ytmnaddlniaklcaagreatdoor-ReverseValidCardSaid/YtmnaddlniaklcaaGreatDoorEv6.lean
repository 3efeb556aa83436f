/- An abstract interpreter of the model's code, sixth part: values that are built, maps that are read; all readers together. -/
import Derived.Test.YtmnaddlniaklcaaGreatDoorEv5
namespace Go.Proofs.YtmnaddlniaklcaaGreatDoor.Ev
open Go
noncomputable section

theorem fillA_ok {η : Env} {place : Nat → Option (Nat × Nat)} : ∀ (ps : List (Nat × V)) (cps : List (Nat × Value)) (cells l : List At) (cs : List Value), fillA place cells ps = some l → concs η cells = some cs → PL η ps cps →
    ∃ ls, concs η l = some ls ∧ Instr.fill place ⟨cs⟩ cps = some ⟨ls⟩ := by
  intro ps
  induction ps with
  | nil =>
    intro cps cells l cs h hc hp
    cases cps with
    | nil => simp [fillA] at h; subst h; exact ⟨cs, hc, rfl⟩
    | cons _ _ => exact hp.elim
  | cons p ps ih =>
    intro cps cells l cs h hc hp
    cases cps with
    | nil => exact hp.elim
    | cons cp cps =>
      obtain ⟨i, v⟩ := p
      obtain ⟨j, c⟩ := cp
      obtain ⟨rfl, hv, hp⟩ := hp
      cases v with
      | tup _ => simp [fillA] at h
      | c g xs =>
        simp only [fillA] at h
        cases hpl : place i with
        | none => simp [hpl] at h
        | some os =>
          obtain ⟨off, size⟩ := os
          simp only [hpl] at h
          split at h
          · rename_i h1 h2
            obtain ⟨xv, hx, hcell⟩ := cells_conc hv
            have hl1 := concs_length _ _ hx
            have hl2 := concs_length _ _ hc
            have h1 := Nat.eq_of_beq_eq_true h1
            have h2 := Nat.le_of_ble_eq_true h2
            have hset : concs η (lset cells off xs) = some (cs.take off ++ xv ++ cs.drop (off + xs.length)) :=
              concs_append _ _ _ _ (concs_append _ _ _ _ (concs_take _ _ off hc) hx) (concs_drop _ _ _ hc)
            obtain ⟨ls, h3, h4⟩ := ih cps _ l _ h hset hp
            refine ⟨ls, h3, ?_⟩
            simp only [Instr.fill, hpl, hcell]
            have e1 : (⟨xv⟩ : Array Value).size = size := by show xv.length = size; omega
            have e2 : ¬ (off + (⟨xv⟩ : Array Value).size > (⟨cs⟩ : Array Value).size) := by show ¬ (off + xv.length > cs.length); omega
            rw [if_neg (by simp only [e1, ne_eq, not_true, decide_false, Bool.false_or, decide_eq_true_eq]; rw [e1] at e2; exact e2)]
            rw [← h4]
            congr 1
            have hf := foldl_set off xv 0 ⟨cs⟩ (by show off + 0 + xv.length ≤ cs.length; omega)
            apply Array.ext'
            have e3 : (Array.foldl (fun cs (x : Value × Nat) => cs.setIfInBounds (off + x.2) x.1) (⟨cs⟩ : Array Value) (⟨xv⟩ : Array Value).zipIdx) = ((xv.zipIdx 0).foldl (fun cs (p : Value × Nat) => cs.setIfInBounds (off + p.2) p.1) (⟨cs⟩ : Array Value)) := by
              rw [← Array.foldl_toList]; simp
            have e4 := congrArg Array.toList e3
            rw [hf] at e4
            simp only [Nat.add_zero, hl1] at e4
            simpa [hl1] using e4
          · cases h

/-! ### Structs and arrays -/
def plcs (fields : Array Field) : Sem (Array (Nat × Nat)) := fields.mapM fun f => do pure (f.offset, ← sizeOf f.type)
def zeroA (P : Program) (t : TypeId) : Option (Bool × List At) :=
  match P.info? t with
  | some i => match i.zero with | some z => absC z | none => none
  | none => none
theorem zeroA_ok {P : Program} {t : TypeId} {g : Bool} {l : List At} (h : zeroA P t = some (g, l)) (η : Env) (w : World) : ∃ z, comp η g l = some z ∧ (zeroValue t).run P w = .ok z w := by
  unfold zeroA at h
  split at h
  · rename_i i hi
    split at h
    · rename_i z hz
      exact ⟨z, absC_conc η h, by simp [zeroValue, run_ti hi, hz]⟩
    · cases h
  · cases h

def evParts (P : Program) (tm : Tr V) : List (Nat × Operand) → Option (List (Nat × V))
  | [] => some []
  | (i, x) :: l => match evO P tm x with
    | some v => match evParts P tm l with | some r => some ((i, v) :: r) | none => none
    | none => none
theorem evParts_ok {P : Program} {η : Env} {tm : Tr V} {A : Act} (ra : RA η tm A.tmps) (hg : η.glob P) : ∀ (l : List (Nat × Operand)) (vs : List (Nat × V)), evParts P tm l = some vs → PL η vs (l.map fun (i, x) => (i, A.eval x)) := by
  intro l
  induction l with
  | nil => intro vs h; simp [evParts] at h; subst h; trivial
  | cons p l ih =>
    obtain ⟨i, x⟩ := p
    intro vs h
    simp only [evParts] at h
    cases hx : evO P tm x with
    | none => simp [hx] at h
    | some v => cases hl : evParts P tm l with
      | none => simp [hx, hl] at h
      | some r => simp [hx, hl] at h; subst h; exact ⟨rfl, evO_ok ra hg hx, ih r hl⟩

def evBuild (P : Program) (t : TypeId) (ps : List (Nat × V)) : Option V :=
  match zeroA P t, P.underlying t with
  | some (_, z), some (.struct fs) => match runA P (plcs fs) with
    | some pl => match fillA (pl[·]?) z ps with | some l => some (.c true l) | none => none
    | none => none
  | some (_, z), some (.array _ e) => match P.info? e with
    | some i => match fillA (fun k => some (k * i.size, i.size)) z ps with | some l => some (.c true l) | none => none
    | none => none
  | _, _ => none

theorem evBuild_ok {P : Program} {t : TypeId} {ps : List (Nat × V)} {v : V} (h : evBuild P t ps = some v) {η : Env} {w : World} {cps : Array (Nat × Value)} (hp : PL η ps cps.toList) :
    ∃ cv, v.conc η = some cv ∧ (Instr.build t cps).run P w = .ok cv w := by
  unfold evBuild at h
  split at h
  · rename_i g z fs hz hu
    obtain ⟨zv, hz1, hz2⟩ := zeroA_ok hz η w
    obtain ⟨zs, hz3, hz4⟩ := cells_conc (g := g) hz1
    split at h
    · rename_i pl hpl
      split at h
      · rename_i l hl
        cases h
        obtain ⟨ls, h1, h2⟩ := fillA_ok ps cps.toList z l zs hl hz3 hp
        refine ⟨.agg ⟨ls⟩, by simp [V.conc, comp, h1], ?_⟩
        have hpl' := runA_run hpl w
        simp only [plcs] at hpl'
        simp only [Instr.build, Sem.run_bind, hz2, Result.andThen_ok, run_und hu, hpl', hz4, h2, Sem.run_pure]
      · cases h
    · cases h
  · rename_i g z n e hz hu
    obtain ⟨zv, hz1, hz2⟩ := zeroA_ok hz η w
    obtain ⟨zs, hz3, hz4⟩ := cells_conc (g := g) hz1
    split at h
    · rename_i i hi
      split at h
      · rename_i l hl
        cases h
        obtain ⟨ls, h1, h2⟩ := fillA_ok ps cps.toList z l zs hl hz3 hp
        refine ⟨.agg ⟨ls⟩, by simp [V.conc, comp, h1], ?_⟩
        simp only [Instr.build, Sem.run_bind, hz2, Result.andThen_ok, run_und hu, run_size hi, hz4, h2, Sem.run_pure]
      · cases h
    · cases h
  · cases h

/-! ### Maps -/
theorem runA_bind (P : Program) {α β : Type} (s : Sem α) (f : α → Sem β) : runA P (s >>= f) = (runA P s).bind (fun x => runA P (f x)) := by
  show runA P (s.bind f) = _
  induction s with
  | pure a => rfl
  | program k ih => exact ih P
  | mark m k ih => exact ih
  | _ => rfl

def flatMs : List Ent → Option (List MapEntry)
  | [] => some []
  | (k, _, born) :: l => match comp Env.void k.1 k.2, flatMs l with
    | some kv, some r => some (⟨kv, .nilFunc, born⟩ :: r)
    | _, _ => none
/-- The same keys, and the same births. -/
inductive SameK : List MapEntry → List MapEntry → Prop where
  | nil : SameK [] []
  | cons {k u v : Value} {n : Nat} {l m : List MapEntry} (h : SameK l m) : SameK (⟨k, u, n⟩ :: l) (⟨k, v, n⟩ :: m)
theorem flatMs_ok {η : Env} : ∀ {es : List Ent} {ms ms0 : List MapEntry}, Ents η es ms → flatMs es = some ms0 → SameK ms0 ms := by
  intro es ms ms0 h
  induction h generalizing ms0 with
  | nil => intro h; simp [flatMs] at h; subst h; exact .nil
  | cons hk hv _ ih =>
    rename_i k v born ck cv es' ms' _
    intro h
    simp only [flatMs] at h
    cases hkv : comp Env.void k.1 k.2 with
    | none => simp [hkv] at h
    | some kv => cases hl : flatMs es' with
      | none => simp [hkv, hl] at h
      | some r =>
        simp [hkv, hl] at h; subst h
        have := comp_mono (Env.void_le η) hkv
        rw [hk] at this; cases this
        exact .cons (ih hl)

def reval (ms : List MapEntry) (i : Nat) : Option (Nat × Value) → Option (Nat × Value)
  | none => none
  | some (j, v) => some (j, ((ms[j - i]?).map (·.val)).getD v)

theorem findNow_same (kind : TypeDesc) (k : Value) : ∀ {ms0 ms : List MapEntry}, SameK ms0 ms → ∀ i r0, Instr.findNow kind k ms0 i = r0 →
    (r0 = none → Instr.findNow kind k ms i = none) ∧ (∀ x, r0 = some x → Instr.findNow kind k ms i = some (reval ms i x) ∧ ∀ j v, x = some (j, v) → i ≤ j ∧ j - i < ms.length) := by
  intro ms0 ms h
  induction h with
  | nil => intro i r0 h0; subst h0; simp [Instr.findNow, reval]
  | cons hs ih =>
    rename_i kk u v n l m
    intro i r0 h0
    subst h0
    simp only [Instr.findNow]
    cases hn : Instr.sameNow kind k kk with
    | none => simp
    | some b =>
      cases b with
      | true => simp [reval]
      | false =>
        obtain ⟨h1, h2⟩ := ih (i + 1) _ rfl
        refine ⟨h1, fun x hx => ?_⟩
        obtain ⟨h3, h4⟩ := h2 x hx
        simp only [h3]
        cases x with
        | none => simp [reval]
        | some p =>
          obtain ⟨j, pv⟩ := p
          obtain ⟨h5, h6⟩ := h4 j pv rfl
          have e : j - i = (j - (i + 1)) + 1 := by omega
          refine ⟨by simp only [reval, e, List.getElem?_cons_succ], fun j' v' he => ?_⟩
          cases he
          exact ⟨by omega, by simp; omega⟩

theorem findAsking_same (P : Program) (kt : TypeId) (k : Value) : ∀ {ms0 ms : List MapEntry}, SameK ms0 ms → ∀ i x, runA P (Instr.findAsking kt k ms0 i) = some x →
    runA P (Instr.findAsking kt k ms i) = some (reval ms i x) ∧ ∀ j v, x = some (j, v) → i ≤ j ∧ j - i < ms.length := by
  intro ms0 ms h
  induction h with
  | nil => intro i x h0; simp [Instr.findAsking, runA, pure] at h0; subst h0; exact ⟨rfl, fun j v e => by cases e⟩
  | cons hs ih =>
    rename_i kk u v n l m
    intro i x h0
    simp only [Instr.findAsking, runA_bind] at h0 ⊢
    cases hq : runA P (Op.equal kt k kk) with
    | none => simp [hq] at h0
    | some b =>
      simp only [hq, Option.bind_some] at h0 ⊢
      cases b with
      | true =>
        simp [runA, pure] at h0; subst h0
        exact ⟨by simp [runA, pure, reval], fun j v' e => by cases e; exact ⟨Nat.le_refl _, by simp⟩⟩
      | false =>
        simp only [Bool.false_eq_true, if_false] at h0 ⊢
        obtain ⟨h3, h4⟩ := ih (i + 1) x h0
        rw [h3]
        cases x with
        | none => exact ⟨rfl, fun j v e => by cases e⟩
        | some p =>
          obtain ⟨j, pv⟩ := p
          obtain ⟨h5, h6⟩ := h4 j pv rfl
          have e : j - i = (j - (i + 1)) + 1 := by omega
          refine ⟨by simp only [reval, e, List.getElem?_cons_succ], fun j' v' he => ?_⟩
          cases he
          exact ⟨by omega, by simp; omega⟩

theorem findKey_same (P : Program) (kt : TypeId) (k : Value) {ms0 ms : List MapEntry} (hs : SameK ms0 ms) {x : Option (Nat × Value)} (h : runA P (Instr.findKey kt k ms0) = some x) :
    runA P (Instr.findKey kt k ms) = some (reval ms 0 x) ∧ ∀ j v, x = some (j, v) → j < ms.length := by
  unfold Instr.findKey at h ⊢
  simp only [runA_bind] at h ⊢
  cases hu : runA P (underlying kt) with
  | none => simp [hu] at h
  | some d =>
    simp only [hu, Option.bind_some] at h ⊢
    obtain ⟨h1, h2⟩ := findNow_same d k hs 0 _ rfl
    cases hf : Instr.findNow d k ms0 0 with
    | none =>
      simp only [hf] at h
      rw [h1 hf]
      obtain ⟨h3, h4⟩ := findAsking_same P kt k hs 0 x h
      exact ⟨h3, fun j v e => by have := (h4 j v e).2; simpa using this⟩
    | some y =>
      simp only [hf] at h
      simp [runA, pure] at h; subst h
      obtain ⟨h3, h4⟩ := h2 y hf
      rw [h3]
      exact ⟨rfl, fun j v e => by have := (h4 j v e).2; simpa using this⟩

theorem Ents.get {η : Env} {es : List Ent} {ms : List MapEntry} (h : Ents η es ms) : ∀ (i : Nat) (k v : Bool × List At) (n : Nat), es[i]? = some (k, v, n) → ∃ ck cv, ms[i]? = some ⟨ck, cv, n⟩ ∧ comp η k.1 k.2 = some ck ∧ comp η v.1 v.2 = some cv := by
  induction h with
  | nil => intro i k v n hi; simp at hi
  | cons hk hv _ ih =>
    intro i k v n hi
    cases i with
    | zero => simp at hi; obtain ⟨rfl, rfl, rfl⟩ := hi; exact ⟨_, _, rfl, hk, hv⟩
    | succ i => simpa using ih i k v n (by simpa using hi)

def evFind (P : Program) (kt : TypeId) (k : V) (es : List Ent) (empty : Bool) : Option (Option Nat) :=
  match k.conc Env.void, flatMs es with
  | some kv, some ms0 => match runA P (Instr.checkKey empty 10000 kt kv) with
    | some _ => match runA P (Instr.findKey kt kv ms0) with
      | some (some (i, _)) => some (some i)
      | some none => some none
      | none => none
    | none => none
  | _, _ => none

theorem evFind_ok {P : Program} {kt : TypeId} {k : V} {es : List Ent} {empty : Bool} {r : Option Nat} (h : evFind P kt k es empty = some r) {η : Env} {w : World} {ms : List MapEntry} (hms : Ents η es ms) {ck : Value} (hk : k.conc η = some ck) :
    (Instr.checkKey empty 10000 kt ck).run P w = .ok () w ∧
    (match r with
     | some i => ∃ e, ms[i]? = some e ∧ (Instr.findKey kt ck ms).run P w = .ok (some (i, e.val)) w
     | none => (Instr.findKey kt ck ms).run P w = .ok none w) := by
  unfold evFind at h
  split at h
  · rename_i kv ms0 hkv hfl
    have := V.conc_mono (Env.void_le η) hkv
    rw [hk] at this; cases this
    split at h
    · rename_i u hck
      refine ⟨runA_run (x := ()) hck w, ?_⟩
      have hs := flatMs_ok hms hfl
      split at h
      · rename_i i v hf
        cases h
        obtain ⟨h1, h2⟩ := findKey_same P kt ck hs hf
        have hlt := h2 i v rfl
        refine ⟨ms[i], by simp [hlt], ?_⟩
        have := runA_run h1 w
        simpa [reval, hlt] using this
      · rename_i hf
        cases h
        obtain ⟨h1, _⟩ := findKey_same P kt ck hs hf
        exact runA_run h1 w
      · cases h
    · cases h
  · cases h

def okV (ok : Bool) (v : Bool × List At) (b : Bool) : V := bif ok then .tup [v, (false, [.bool b])] else .c v.1 v.2
theorem okV_conc {η : Env} {ok b : Bool} {v : Bool × List At} {cv : Value} (h : comp η v.1 v.2 = some cv) : (okV ok v b).conc η = some (if ok then .tuple #[cv, .bool b] else cv) := by
  cases ok with
  | true =>
    have h2 : comp η false [.bool b] = some (.bool b) := rfl
    simp [okV, V.conc, comps, h, h2]
  | false => simp [okV, V.conc, h]

def evLookup (P : Program) (H : Tr AObj) (t : TypeId) (m : At) (k : V) (ok : Bool) : Option V :=
  match P.underlying t, m with
  | some (.map kt et), .map b => match H.get b with
    | some (.map es _) => match evFind P kt k es es.isEmpty with
      | some (some i) => match es[i]? with | some (_, v, _) => some (okV ok v true) | none => none
      | some none => match zeroA P et with | some z => some (okV ok z false) | none => none
      | none => none
    | _ => none
  | _, _ => none

theorem Ents.empty {η : Env} {es : List Ent} {ms : Array MapEntry} (h : Ents η es ms.toList) : ms.isEmpty = es.isEmpty := by
  have := h.length
  rw [Bool.eq_iff_iff]
  simp only [Array.isEmpty_iff, List.isEmpty_iff]
  rw [← List.length_eq_zero_iff, ← this]
  simp

theorem evLookup_ok {P : Program} {H : Tr AObj} {t : TypeId} {m : At} {k : V} {ok : Bool} {v : V} (hv : evLookup P H t m k ok = some v) {η : Env} {hp : Hp} {w : World} (ext : ∀ b o, H.get b = some o → hp b = some o) (rh : RH η hp w)
    {cm ck : Value} (hm : m.conc η = some cm) (hk : k.conc η = some ck) : ∃ cv, v.conc η = some cv ∧ (Instr.lookup t cm ck ok).run P w = .ok cv w := by
  unfold evLookup at hv
  split at hv
  · rename_i kt et b hu
    obtain ⟨B, hB, rfl⟩ := conc_map hm
    split at hv
    · rename_i es clock ho
      obtain ⟨B', co, hB', hw, ms, rfl, hms⟩ := rh.live b _ (ext b _ ho)
      obtain rfl : B = B' := Option.some.inj (hB.symm.trans hB')
      have hg : (getObj B.1).run P w = .ok (.map ms clock) w := by simp [getObj, Sem.run, hw]
      split at hv
      · rename_i i hf
        obtain ⟨h1, e, h2, h3⟩ := evFind_ok hf (w := w) hms hk
        split at hv
        · rename_i kk vv n hi
          cases hv
          obtain ⟨ck', cv', h4, h5, h6⟩ := hms.get i kk vv n hi
          rw [h2] at h4; cases h4
          refine ⟨_, okV_conc h6, ?_⟩
          rw [← hms.empty] at h1
          simp [Instr.lookup, run_und hu, hg, h1, h3]
        · cases hv
      · rename_i hf
        obtain ⟨h1, h3⟩ := evFind_ok hf (w := w) hms hk
        split at hv
        · rename_i z hz
          cases hv
          obtain ⟨zv, hz1, hz2⟩ := zeroA_ok (g := z.1) (l := z.2) hz η w
          refine ⟨_, okV_conc hz1, ?_⟩
          rw [← hms.empty] at h1
          simp [Instr.lookup, run_und hu, hg, h1, h3, hz2]
        · cases hv
      · cases hv
    · cases hv
  · cases hv

end
end Go.Proofs.YtmnaddlniaklcaaGreatDoor.Ev
