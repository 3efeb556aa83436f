/- An abstract interpreter of the model's code, fifth part: slices, lengths, values that are built, maps that are read. -/
import Derived.Test.YtmnaddlniaklcaaGreatDoorEv4
namespace Go.Proofs.YtmnaddlniaklcaaGreatDoor.Ev
open Go
noncomputable section

/-! ### Slices of slices -/
def natOf : At → Option Nat
  | .int _ (.ofNat k) => some k
  | _ => none
/-- The bounds (low, high, max) of a slice expression, if none of them fails. -/
def bnds (len cap : Nat) (lo hi mx : Option At) : Option (Nat × Nat × Nat) :=
  match (match mx with | some a => natOf a | none => some cap) with
  | none => none
  | some m => match Nat.ble m cap with
    | false => none
    | true => match (match hi with | some a => natOf a | none => match mx with | some _ => none | none => some len) with
      | none => none
      | some h => match (match hi with | some _ => Nat.ble h m | none => true), (match lo with | some a => natOf a | none => some 0) with
        | true, some l => match (match lo with | some _ => Nat.ble l h | none => true) with | true => some (l, h, m) | false => none
        | _, _ => none

def optC (η : Env) : Option At → Option Value → Prop
  | none, none => True
  | some a, some v => a.conc η = some v
  | _, _ => False

theorem natOf_conc {η : Env} {a : At} {k : Nat} {v : Value} (h : natOf a = some k) (hv : a.conc η = some v) : ∃ kd, v = .int kd (k : Int) := by
  unfold natOf at h
  split at h
  · cases h; simp only [At.conc] at hv; cases hv; exact ⟨_, rfl⟩
  · cases h

theorem run_bound {P : Program} {w : World} {kd : IntKind} {k y : Nat} {code : BoundsCode} (h : k ≤ y) : (Instr.sliceBound (.int kd (k : Int)) y code).run P w = .ok k w := by
  have : (0 : Int) ≤ (k : Int) ∧ (k : Int) ≤ (y : Int) := ⟨Int.natCast_nonneg k, by exact Int.ofNat_le.2 h⟩
  simp [Instr.sliceBound, asIntOf, h]

theorem bnds_ok {P : Program} {w : World} {η : Env} {s : Bool} {len cap : Nat} {lo hi mx : Option At} {clo chi cmx : Option Value} (h1 : optC η lo clo) (h2 : optC η hi chi) (h3 : optC η mx cmx) {l h m : Nat}
    (hb : bnds len cap lo hi mx = some (l, h, m)) : (Instr.sliceBounds s len cap clo chi cmx).run P w = .ok (l, h, m) w := by
  unfold bnds at hb
  split at hb
  · cases hb
  · rename_i m0 hm
    split at hb
    · cases hb
    · rename_i hmc
      have hmc := Nat.le_of_ble_eq_true hmc
      split at hb
      · cases hb
      · rename_i h0 hh
        split at hb
        · rename_i l0 hhm hl
          split at hb
          · rename_i hlh
            cases hb
            cases mx with
            | none =>
              cases cmx with
              | some _ => exact h3.elim
              | none =>
                simp at hm; subst hm
                cases hi with
                | none =>
                  cases chi with
                  | some _ => exact h2.elim
                  | none =>
                    simp at hh; subst hh
                    cases lo with
                    | none => cases clo with
                      | some _ => exact h1.elim
                      | none => simp at hl; subst hl; simp [Instr.sliceBounds]
                    | some a => cases clo with
                      | none => exact h1.elim
                      | some v =>
                        obtain ⟨kd, rfl⟩ := natOf_conc hl h1
                        simp [Instr.sliceBounds, run_bound (Nat.le_of_ble_eq_true hlh)]
                | some a2 => cases chi with
                  | none => exact h2.elim
                  | some v2 =>
                    obtain ⟨kd2, rfl⟩ := natOf_conc hh h2
                    simp at hhm
                    cases lo with
                    | none => cases clo with
                      | some _ => exact h1.elim
                      | none => simp at hl; subst hl; simp [Instr.sliceBounds, run_bound hhm]
                    | some a => cases clo with
                      | none => exact h1.elim
                      | some v =>
                        obtain ⟨kd, rfl⟩ := natOf_conc hl h1
                        simp [Instr.sliceBounds, run_bound hhm, run_bound (Nat.le_of_ble_eq_true hlh)]
            | some a3 =>
              cases cmx with
              | none => exact h3.elim
              | some v3 =>
                obtain ⟨kd3, rfl⟩ := natOf_conc hm h3
                cases hi with
                | none => simp at hh
                | some a2 => cases chi with
                  | none => exact h2.elim
                  | some v2 =>
                    obtain ⟨kd2, rfl⟩ := natOf_conc hh h2
                    simp at hhm
                    cases lo with
                    | none => cases clo with
                      | some _ => exact h1.elim
                      | none => simp at hl; subst hl; simp [Instr.sliceBounds, run_bound hhm, run_bound hmc]
                    | some a => cases clo with
                      | none => exact h1.elim
                      | some v =>
                        obtain ⟨kd, rfl⟩ := natOf_conc hl h1
                        simp [Instr.sliceBounds, run_bound hhm, run_bound hmc, run_bound (Nat.le_of_ble_eq_true hlh)]
          · cases hb
        · cases hb

/-- A slice in a block of unknown length: how many of its elements are known to be there. -/
def known (H : Tr AObj) (b o e s : Nat) : Option Nat :=
  match H.get b with
  | some (.lcells _ m s' _) => match Nat.beq s s', Nat.beq o (e * s) with
    | true, true => some (m / s - e)
    | _, _ => none
  | _ => none

theorem known_ok {η : Env} {h : Hp} {w : World} {H : Tr AObj} (ext : ∀ b o, H.get b = some o → h b = some o) (rh : RH η h w) {b o e s k : Nat} (hk : known H b o e s = some k) : k ≤ η.cap b - e ∧ 0 < s := by
  unfold known at hk
  split at hk
  · rename_i E m s' t ho
    split at hk
    · rename_i h1 h2
      cases hk
      obtain ⟨B, co, hB, hw, C, rfl, hc, hn, hs, _⟩ := rh.live b _ (ext b _ ho)
      have hs' : s = s' := Nat.eq_of_beq_eq_true h1
      subst hs'
      have : m / s ≤ η.cap b := by
        have h3 : m / s ≤ (η.cap b * s) / s := Nat.div_le_div_right hn
        rwa [Nat.mul_div_cancel _ hs] at h3
      exact ⟨by omega, hs⟩
    · cases hk
  · cases hk

def evSlice (P : Program) (H : Tr AObj) (t : TypeId) (x : At) (lo hi mx : Option At) : Option V :=
  match P.underlying t with
  | some (.slice e) => match P.info? e, x with
    | some i, .sl b o n c => match bnds n c lo hi mx with
      | some (l, h, m) => some (.one (.sl b (bif Nat.beq m l then o else o + l * i.size) (h - l) (m - l)))
      | none => none
    | some i, .slx b o n e' => match known H b o e' i.size with
      | some k => match mx with
        | some _ => match bnds n k lo hi mx with
          | some (l, h, m) => some (.one (.sl b (bif Nat.beq m l then o else o + l * i.size) (h - l) (m - l)))
          | none => none
        | none => match bnds n k lo hi none with
          | some (l, h, _) => match Nat.beq l 0 || Nat.blt l k with
            | true => some (.one (.slx b (o + l * i.size) (h - l) (e' + l)))
            | false => none
          | none => none
      | none => none
    | _, _ => none
  | some (.array n e) => match P.info? e, x with
    | some i, .ptr b o => match bnds n n lo hi mx with
      | some (l, h, m) => some (.one (.sl b (bif Nat.beq m l then o else o + l * i.size) (h - l) (m - l)))
      | none => none
    | _, _ => none
  | _ => none

theorem bif_beq {α : Type} (m l : Nat) (x y : α) : (bif Nat.beq m l then x else y) = if m = l then x else y := by
  by_cases e : m = l
  · subst e; simp
  · have : Nat.beq m l = false := by cases hb : Nat.beq m l with | false => rfl | true => exact absurd (Nat.eq_of_beq_eq_true hb) e
    simp [this, e]

/-- The bounds hold under a greater capacity, if no max is given. -/
theorem bnds_more {len k k' : Nat} {lo hi : Option At} {l h m : Nat} (hb : bnds len k lo hi none = some (l, h, m)) (hle : k ≤ k') : bnds len k' lo hi none = some (l, h, k') ∧ m = k := by
  unfold bnds at hb ⊢
  simp only [Nat.ble_self_eq_true] at hb ⊢
  cases hi with
  | none =>
    cases lo with
    | none => simp at hb ⊢; obtain ⟨rfl, rfl, rfl⟩ := hb; simp
    | some a =>
      cases hn : natOf a with
      | none => simp [hn] at hb
      | some l0 =>
        cases hl : Nat.ble l0 len with
        | false => simp [hn, hl] at hb
        | true => simp [hn, hl] at hb ⊢; obtain ⟨rfl, rfl, rfl⟩ := hb; simp
  | some a2 =>
    cases hn2 : natOf a2 with
    | none => simp [hn2] at hb
    | some h0 =>
      cases hh : Nat.ble h0 k with
      | false => simp [hn2, hh] at hb
      | true =>
        have hh' : Nat.ble h0 k' = true := Nat.ble_eq_true_of_le (Nat.le_trans (Nat.le_of_ble_eq_true hh) hle)
        cases lo with
        | none => simp [hn2, hh, hh'] at hb ⊢; obtain ⟨rfl, rfl, rfl⟩ := hb; simp
        | some a =>
          cases hn : natOf a with
          | none => simp [hn, hn2, hh] at hb
          | some l0 =>
            cases hl : Nat.ble l0 h0 with
            | false => simp [hn, hn2, hh, hl] at hb
            | true => simp [hn, hn2, hh, hh', hl] at hb ⊢; obtain ⟨rfl, rfl, rfl⟩ := hb; simp

theorem slice_conc {η : Env} {b o n c : Nat} {B : Nat × Nat} (hB : η.blk b = some B) : (V.one (.sl b o n c)).conc η = some (.slice (some (adr B o)) n c) := by
  rw [one_conc]; simp [At.conc, hB]

theorem evSlice_ok {P : Program} {H : Tr AObj} {t : TypeId} {x : At} {lo hi mx : Option At} {v : V} (hv : evSlice P H t x lo hi mx = some v) {η : Env} {hp : Hp} {w : World} (ext : ∀ b o, H.get b = some o → hp b = some o) (rh : RH η hp w)
    {cx : Value} {clo chi cmx : Option Value} (hx : x.conc η = some cx) (h1 : optC η lo clo) (h2 : optC η hi chi) (h3 : optC η mx cmx) :
    ∃ cv, v.conc η = some cv ∧ (Instr.sliceAt t cx clo chi cmx).run P w = .ok cv w := by
  unfold evSlice at hv
  split at hv
  · rename_i e hu
    split at hv
    · rename_i i b o n c hi'
      obtain ⟨B, hB, rfl⟩ := conc_sl hx
      split at hv
      · rename_i l h m hb
        cases hv
        refine ⟨_, slice_conc hB, ?_⟩
        simp only [Instr.sliceAt, Sem.run_bind, run_und hu, Result.andThen_ok, Instr.slice, bnds_ok h1 h2 h3 hb, run_size hi', Sem.run_pure, bif_beq, Option.map_some, adr_add]
        by_cases e : m = l <;> simp [e]
      · cases hv
    · rename_i i b o n e' hi'
      obtain ⟨B, hB, rfl⟩ := conc_slx hx
      split at hv
      · rename_i k hk
        obtain ⟨hle, hs⟩ := known_ok ext rh hk
        split at hv
        · rename_i a3
          split at hv
          · rename_i l h m hb
            cases hv
            have hb' : bnds n (η.cap b - e') lo hi (some a3) = some (l, h, m) := by
              unfold bnds at hb ⊢
              cases hm : natOf a3 with
              | none => simp [hm] at hb
              | some m0 =>
                cases hmk : Nat.ble m0 k with
                | false => simp [hm, hmk] at hb
                | true =>
                  have hmk' : Nat.ble m0 (η.cap b - e') = true := Nat.ble_eq_true_of_le (Nat.le_trans (Nat.le_of_ble_eq_true hmk) hle)
                  simp only [hm, hmk] at hb
                  simp only [hm, hmk']; exact hb
            refine ⟨_, slice_conc hB, ?_⟩
            simp only [Instr.sliceAt, Sem.run_bind, run_und hu, Result.andThen_ok, Instr.slice, bnds_ok h1 h2 h3 hb', run_size hi', Sem.run_pure, bif_beq, Option.map_some, adr_add]
            by_cases e : m = l <;> simp [e]
          · cases hv
        · split at hv
          · rename_i l h m hb
            split at hv
            · rename_i hc
              cases hv
              obtain ⟨hb', hm⟩ := bnds_more hb hle
              have hcv : (V.one (.slx b (o + l * i.size) (h - l) (e' + l))).conc η = some (.slice (some (adr B (o + l * i.size))) (h - l) (η.cap b - e' - l)) := by
                rw [one_conc]; simp [At.conc, hB, Nat.sub_sub]
              refine ⟨_, hcv, ?_⟩
              simp only [Instr.sliceAt, Sem.run_bind, run_und hu, Result.andThen_ok, Instr.slice, bnds_ok h1 h2 h3 hb', run_size hi', Sem.run_pure, Option.map_some, adr_add]
              by_cases e : η.cap b - e' = l
              · have hl0 : l = 0 := by
                  rw [Bool.or_eq_true] at hc
                  rcases hc with hc | hc
                  · exact Nat.eq_of_beq_eq_true hc
                  · have := blt_lt hc; omega
                rw [if_pos e, hl0]; simp
              · rw [if_neg e]
            · cases hv
          · cases hv
      · cases hv
    · cases hv
  · rename_i n e hu
    split at hv
    · rename_i i b o hi'
      obtain ⟨B, hB, rfl⟩ := conc_ptr hx
      split at hv
      · rename_i l h m hb
        cases hv
        refine ⟨_, slice_conc hB, ?_⟩
        simp only [Instr.sliceAt, Sem.run_bind, run_und hu, Result.andThen_ok, Instr.sureAddr, bnds_ok h1 h2 h3 hb, run_size hi', Sem.run_pure, bif_beq, adr_add]
        by_cases e : m = l <;> simp [e]
      · cases hv
    · cases hv
  · cases hv

/-! ### Lengths -/
def evLen (P : Program) (H : Tr AObj) (t : TypeId) (x : At) : Option V :=
  match P.underlying t, x with
  | some (.slice _), .sl _ _ n _ => some (.one (.int .i64 (Int.ofNat n)))
  | some (.slice _), .slx _ _ n _ => some (.one (.int .i64 (Int.ofNat n)))
  | some (.slice _), .emp _ => some (.one (.int .i64 (Int.ofNat 0)))
  | some (.map _ _), .map b => match H.get b with
    | some (.map es _) => some (.one (.int .i64 (Int.ofNat es.length)))
    | _ => none
  | _, _ => none
theorem Ents.length {η : Env} {es : List Ent} {ms : List MapEntry} (h : Ents η es ms) : ms.length = es.length := by
  induction h with
  | nil => rfl
  | cons _ _ _ ih => simp [ih]
theorem evLen_ok {P : Program} {H : Tr AObj} {t : TypeId} {x : At} {v : V} (hv : evLen P H t x = some v) {η : Env} {hp : Hp} {w : World} (ext : ∀ b o, H.get b = some o → hp b = some o) (rh : RH η hp w)
    {cx : Value} (hx : x.conc η = some cx) (ts : Array TypeId) (ty : TypeId) (hts : ts[0]? = some t) : ∃ cv, v.conc η = some cv ∧ (Builtin.len_ ts ty #[cx]).run P w = .ok cv w := by
  unfold evLen at hv
  split at hv
  · rename_i e b o n c hu
    obtain ⟨B, hB, rfl⟩ := conc_sl hx
    cases hv; exact ⟨_, one_conc.2 rfl, by simp [Builtin.len_, hts, run_und hu, goInt]⟩
  · rename_i e b o n c hu
    obtain ⟨B, hB, rfl⟩ := conc_slx hx
    cases hv; exact ⟨_, one_conc.2 rfl, by simp [Builtin.len_, hts, run_und hu, goInt]⟩
  · rename_i e i hu
    obtain ⟨B, c, hB, rfl⟩ := conc_emp hx
    cases hv; exact ⟨_, one_conc.2 rfl, by simp [Builtin.len_, hts, run_und hu, goInt]⟩
  · rename_i kt et b hu
    obtain ⟨B, hB, rfl⟩ := conc_map hx
    split at hv
    · rename_i es clock ho
      cases hv
      obtain ⟨B', co, hB', hw, ms, rfl, hms⟩ := rh.live b _ (ext b _ ho)
      obtain rfl : B = B' := Option.some.inj (hB.symm.trans hB')
      refine ⟨_, one_conc.2 rfl, ?_⟩
      have hl := hms.length
      simp [Builtin.len_, hts, run_und hu, goInt, getObj, Sem.run, hw] 
      have : ms.size = es.length := by simpa using hl
      rw [this]
    · cases hv
  · cases hv

def evCap (P : Program) (t : TypeId) (x : At) : Option V :=
  match P.underlying t, x with
  | some (.slice _), .sl _ _ _ c => some (.one (.int .i64 (Int.ofNat c)))
  | _, _ => none
theorem evCap_ok {P : Program} {t : TypeId} {x : At} {v : V} (hv : evCap P t x = some v) {η : Env} {w : World}
    {cx : Value} (hx : x.conc η = some cx) (ts : Array TypeId) (ty : TypeId) (hts : ts[0]? = some t) : ∃ cv, v.conc η = some cv ∧ (Builtin.cap_ ts ty #[cx]).run P w = .ok cv w := by
  unfold evCap at hv
  split at hv
  · rename_i e b o n c hu
    obtain ⟨B, hB, rfl⟩ := conc_sl hx
    cases hv; exact ⟨_, one_conc.2 rfl, by simp [Builtin.cap_, hts, run_und hu, goInt]⟩
  · cases hv

/-! ### Values that are built -/
def lset (l : List At) (off : Nat) (xs : List At) : List At := l.take off ++ xs ++ l.drop (off + xs.length)
def fillA (place : Nat → Option (Nat × Nat)) (cells : List At) : List (Nat × V) → Option (List At)
  | [] => some cells
  | (i, .c _ xs) :: rest => match place i with
    | some (off, size) => match Nat.beq xs.length size, Nat.ble (off + xs.length) cells.length with
      | true, true => fillA place (lset cells off xs) rest
      | _, _ => none
    | none => none
  | _ => none

/-- Parts, one by one. -/
def PL (η : Env) : List (Nat × V) → List (Nat × Value) → Prop
  | [], [] => True
  | (i, v) :: l, (j, c) :: m => i = j ∧ v.conc η = some c ∧ PL η l m
  | _, _ => False

theorem foldl_set (off : Nat) : ∀ (xs : List Value) (k : Nat) (cs : Array Value), off + k + xs.length ≤ cs.size →
    ((xs.zipIdx k).foldl (fun cs (p : Value × Nat) => cs.setIfInBounds (off + p.2) p.1) cs).toList = cs.toList.take (off + k) ++ xs ++ cs.toList.drop (off + k + xs.length) := by
  intro xs
  induction xs with
  | nil => intro k cs h; simp
  | cons x xs ih =>
    intro k cs h
    simp only [List.length_cons] at h
    simp only [List.zipIdx_cons, List.foldl_cons]
    rw [ih (k + 1) (cs.setIfInBounds (off + k) x) (by simp; omega)]
    apply List.ext_getElem?
    intro j
    simp only [Array.toList_setIfInBounds, List.getElem?_append, List.length_append, List.length_take, List.getElem?_take, List.getElem?_drop, List.length_set, Array.length_toList, List.length_cons]
    by_cases h1 : j < off + k
    · have e1 : min (off + (k + 1)) cs.size = off + k + 1 := by omega
      have e2 : min (off + k) cs.size = off + k := by omega
      simp only [e1, e2]
      rw [if_pos (by omega), if_pos (by omega), if_pos (by omega), if_pos (by omega), if_pos (by omega), if_pos h1, List.getElem?_set_ne (by omega)]
    · have e1 : min (off + (k + 1)) cs.size = off + k + 1 := by omega
      have e2 : min (off + k) cs.size = off + k := by omega
      simp only [e1, e2]
      by_cases h2 : j = off + k
      · subst h2
        rw [if_pos (by omega), if_pos (by omega), if_pos (by omega), if_pos (by omega), if_neg (by omega), List.getElem?_set_self (by simp; omega)]
        simp
      · by_cases h3 : j < off + k + 1 + xs.length
        · rw [if_pos (by omega), if_neg (by omega), if_pos (by omega), if_neg (by omega)]
          have : j - (off + k) = (j - (off + k + 1)) + 1 := by omega
          rw [this, List.getElem?_cons_succ]
        · rw [if_neg (by omega), if_neg (by omega), List.getElem?_set_ne (by omega)]
          congr 1; omega

theorem cells_conc {η : Env} {g : Bool} {l : List At} {cv : Value} (h : (V.c g l).conc η = some cv) : ∃ vs, concs η l = some vs ∧ cv.cells = ⟨vs⟩ := by
  cases g with
  | true => obtain ⟨vs, h1, rfl⟩ := agg_conc h; exact ⟨vs, h1, rfl⟩
  | false =>
    simp only [V.conc, comp] at h
    cases hl : concs η l with
    | none => simp [hl] at h
    | some vs =>
      match vs, hl with
      | [u], hl =>
        simp [hl] at h; subst h
        refine ⟨[u], rfl, ?_⟩
        have : ∀ cs, u ≠ .agg cs := by
          intro cs e
          subst e
          cases l with
          | nil => simp [concs] at hl
          | cons a l =>
            simp only [concs] at hl
            cases ha : a.conc η with
            | none => simp [ha] at hl
            | some v => cases hl' : concs η l with
              | none => simp [ha, hl'] at hl
              | some ws => simp [ha, hl'] at hl; obtain ⟨rfl, _⟩ := hl; have := At.conc_one ha; cases this
        cases u <;> first | rfl | exact absurd rfl (this _)
      | [], hl => simp [hl] at h
      | _ :: _ :: _, hl => simp [hl] at h

end
end Go.Proofs.YtmnaddlniaklcaaGreatDoor.Ev
