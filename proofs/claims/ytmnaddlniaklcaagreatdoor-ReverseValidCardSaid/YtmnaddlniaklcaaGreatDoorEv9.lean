/- An abstract interpreter of the model's code, ninth part: slices that are made and grow; copies. -/
import Derived.Test.YtmnaddlniaklcaaGreatDoorEv8
namespace Go.Proofs.YtmnaddlniaklcaaGreatDoor.Ev
open Go
noncomputable section

/-! ### Zeros -/
def reps (z : List At) : Nat → List At
  | 0 => []
  | n + 1 => z ++ reps z n
def repsV (z : List Value) : Nat → List Value
  | 0 => []
  | n + 1 => z ++ repsV z n
theorem reps_conc {η : Env} {z : List At} {zs : List Value} (h : concs η z = some zs) : ∀ n, concs η (reps z n) = some (repsV zs n)
  | 0 => rfl
  | n + 1 => concs_append _ _ _ _ h (reps_conc h n)
theorem repsV_length (z : List Value) : ∀ n, (repsV z n).length = n * z.length
  | 0 => by simp [repsV]
  | n + 1 => by simp [repsV, repsV_length z n, Nat.succ_mul]; omega
theorem repsV_get (z : List Value) (hz : 0 < z.length) : ∀ n i, i < n * z.length → (repsV z n)[i]? = z[i % z.length]?
  | 0, i, h => by simp at h
  | n + 1, i, h => by
    simp only [repsV, List.getElem?_append]
    by_cases hi : i < z.length
    · rw [if_pos hi, Nat.mod_eq_of_lt hi]
    · rw [if_neg hi, repsV_get z hz n (i - z.length) (by rw [Nat.succ_mul] at h; omega)]
      congr 1
      rw [Nat.mod_eq_sub_mod (a := i) (by omega)]
theorem zeros_eq (z : Array Value) (n : Nat) (hz : 0 < z.size) : (Array.range (n * z.size)).map (fun i => z[i % z.size]!) = ⟨repsV z.toList n⟩ := by
  apply Array.ext'
  apply List.ext_getElem?
  intro i
  have hz' : 0 < z.toList.length := by simpa using hz
  by_cases hi : i < n * z.size
  · have hm : i % z.size < z.size := Nat.mod_lt _ hz
    have h2 := repsV_get z.toList hz' n i (by simpa using hi)
    rw [h2]
    simp [hi, hm]
  · rw [List.getElem?_eq_none (by simp; omega), List.getElem?_eq_none (by rw [repsV_length]; simp; omega)]

def pos (n : Nat) : Bool := Nat.blt 0 n

/-- The type of a slice: its element, the element's zero, its cells and bytes. -/
structure SlT (P : Program) (t : TypeId) (e : TypeId) (i : TypeInfo) (z : List At) : Prop where
  und : P.underlying t = some (.slice e)
  info : P.info? e = some i
  zero : ∃ g, zeroA P e = some (g, z)
  size : z.length = i.size
  pos : 0 < i.size

def slT (P : Program) (t : TypeId) : Option (TypeId × Nat × Nat × List At) :=
  match P.underlying t with
  | some (.slice e) => match P.info? e, zeroA P e with
    | some i, some (_, z) => match Nat.beq z.length i.size, Nat.blt 0 i.size with
      | true, true => some (e, i.size, i.bytes, z)
      | _, _ => none
    | _, _ => none
  | _ => none
theorem slT_ok {P : Program} {t e s y : Nat} {z : List At} (h : slT P t = some (e, s, y, z)) : ∃ i, SlT P t e i z ∧ i.size = s ∧ i.bytes = y := by
  unfold slT at h
  split at h
  · rename_i e' hu
    split at h
    · rename_i i g z' hi hz
      split at h
      · rename_i h1 h2
        cases h
        exact ⟨i, ⟨hu, hi, ⟨g, hz⟩, Nat.eq_of_beq_eq_true h1, blt_lt h2⟩, rfl, rfl⟩
      · cases h
    · cases h
  · cases h

theorem SlT.zeroV {P : Program} {t e : Nat} {i : TypeInfo} {z : List At} (h : SlT P t e i z) (η : Env) (w : World) : ∃ zv zs, (zeroValue e).run P w = .ok zv w ∧ concs η z = some zs ∧ zv.cells = ⟨zs⟩ ∧ zs.length = i.size ∧ i.zero = some zv := by
  obtain ⟨g, hz⟩ := h.zero
  obtain ⟨zv, h1, h2⟩ := zeroA_ok hz η w
  obtain ⟨zs, h3, h4⟩ := cells_conc (g := g) h1
  refine ⟨zv, zs, h2, h3, h4, by rw [concs_length _ _ h3]; exact h.size, ?_⟩
  unfold zeroA at hz
  rw [h.info] at hz
  cases hzz : i.zero with
  | none => simp [hzz] at hz
  | some zz =>
    simp only [hzz] at hz
    have := absC_conc η hz
    rw [h1] at this; cases this; rfl

/-! ### Literals and make -/
def evBuildSlice (P : Program) (H : Tr AObj) (nx : Nat) (t : TypeId) (len : Nat) (ps : List (Nat × V)) : Option (V × Tr AObj × Nat) :=
  match slT P t with
  | some (e, s, _, z) => match Nat.ble (len * s) (2 ^ 24), fillA (fun i => some (i * s, s)) (reps z len) ps with
    | true, some l => match Nat.beq l.length (len * s) with
      | true => some (.one (.sl nx 0 len len), H.put (some (mk e l)) nx, nx + 1)
      | false => none
    | _, _ => none
  | none => none

theorem evBuildSlice_ok {P : Program} {H : Tr AObj} {nx : Nat} {t : TypeId} {len : Nat} {ps : List (Nat × V)} {v : V} {H' : Tr AObj} {nx' : Nat} (he : evBuildSlice P H nx t len ps = some (v, H', nx')) :
    Dm H.get H'.get nx nx' ∧ ∀ {η : Env} {h : Hp} {w : World} {cps : Array (Nat × Value)}, Pre η h w H.get nx nx' → PL η ps cps.toList → ∃ cv w' η', (Instr.buildSlice t len cps).run P w = .ok cv w' ∧ v.conc η' = some cv ∧ Stp η h w H.get H'.get nx nx' η' w' := by
  unfold evBuildSlice at he
  split at he
  · rename_i e s y z hsl
    obtain ⟨i, ht, rfl, rfl⟩ := slT_ok hsl
    split at he
    · rename_i l hle hfill
      split at he
      · rename_i hlen
        cases he
        refine ⟨dm_alloc _ _ _, fun p hp => ?_⟩
        rename_i η h w cps
        obtain ⟨zv, zs, h1, h2, h3, h4, _⟩ := ht.zeroV η w
        obtain ⟨ls, h5, h6⟩ := fillA_ok ps cps.toList _ l _ hfill (reps_conc h2 len) hp
        obtain ⟨η', h7, h8, h9⟩ := new_ok (E := e) p h5
        refine ⟨.slice (some ⟨w.heap.size, 0, none⟩) len len, _, η', ?_, by rw [slice_conc h8]; rfl, h9⟩
        have hle := Nat.le_of_ble_eq_true hle
        have hgt : ¬ (len * i.size > 2 ^ 24) := by omega
        have hzp : 0 < (⟨zs⟩ : Array Value).size := by show 0 < zs.length; rw [h4]; exact ht.pos
        have hrange : ∀ zz : Array Value, zz = ⟨zs⟩ → (Array.range (len * i.size)).map (fun i => zz[i % zz.size]!) = ⟨repsV zs len⟩ := by
          intro zz hzz; subst hzz
          have := zeros_eq ⟨zs⟩ len hzp
          rw [show (⟨zs⟩ : Array Value).size = i.size from h4] at this
          rw [show (⟨zs⟩ : Array Value).size = i.size from h4]; exact this
        simp only [Instr.buildSlice, Sem.run_bind, run_und ht.und, Result.andThen_ok, run_size ht.info, if_neg hgt]
        by_cases h0 : len * i.size = 0
        · have hl0 : len = 0 := by rcases Nat.mul_eq_zero.1 h0 with h | h; exact h; have := ht.pos; omega
          subst hl0
          have h6' : Instr.fill (fun k => some (k * i.size, i.size)) #[] cps.toList = some ⟨ls⟩ := h6
          have hr0 : ∀ f : Nat → Value, (Array.range 0).map f = #[] := fun f => by apply Array.ext'; simp
          simp [hr0, h6', newRow]
        · simp only [if_neg h0, Sem.run_bind, h1, Result.andThen_ok, Sem.run_pure, hrange zv.cells h3, h6]
          simp [newRow]
      · cases he
    · cases he
  · cases he

def evMakeSlice (P : Program) (H : Tr AObj) (nx : Nat) (t : TypeId) (len cap : At) : Option (V × Tr AObj × Nat) :=
  match slT P t, natOf len, natOf cap with
  | some (e, s, y, z), some l, some c => match Nat.ble l c, Nat.ble (c * y) (2 ^ 47), Nat.ble c (2 ^ 47) with
    | true, true, true => some (.one (.sl nx 0 l c), H.put (some (.cells e (c * s) (wr .nil 0 (reps z c)))) nx, nx + 1)
    | _, _, _ => none
  | _, _, _ => none

theorem evMakeSlice_ok {P : Program} {H : Tr AObj} {nx : Nat} {t : TypeId} {len cap : At} {v : V} {H' : Tr AObj} {nx' : Nat} (he : evMakeSlice P H nx t len cap = some (v, H', nx')) :
    Dm H.get H'.get nx nx' ∧ ∀ {η : Env} {h : Hp} {w : World} {cl cc : Value}, Pre η h w H.get nx nx' → len.conc η = some cl → cap.conc η = some cc → ∃ cv w' η', (Instr.makeSlice t cl cc).run P w = .ok cv w' ∧ v.conc η' = some cv ∧ Stp η h w H.get H'.get nx nx' η' w' := by
  unfold evMakeSlice at he
  split at he
  · rename_i e s y z l c hsl hl hc
    obtain ⟨i, ht, rfl, rfl⟩ := slT_ok hsl
    split at he
    · rename_i h1 h2 h3
      cases he
      refine ⟨dm_alloc _ _ _, fun p hcl hcc => ?_⟩
      rename_i η h w cl cc
      obtain ⟨kl, rfl⟩ := natOf_conc hl hcl
      obtain ⟨kc, rfl⟩ := natOf_conc hc hcc
      have h1 := Nat.le_of_ble_eq_true h1
      have h2 := Nat.le_of_ble_eq_true h2
      have h3 := Nat.le_of_ble_eq_true h3
      obtain ⟨zv, zs, z1, z2, z3, z4, _⟩ := ht.zeroV η w
      have hrc := reps_conc z2 c
      have hlen : (reps z c).length = c * i.size := by rw [← concs_length _ _ hrc, repsV_length, z4]
      obtain ⟨η', h7, h8, h9⟩ := new_ok (E := e) p hrc
      have hmk : mk e (reps z c) = .cells e (c * i.size) (wr .nil 0 (reps z c)) := by unfold mk; rw [hlen]
      rw [hmk] at h9
      refine ⟨.slice (some ⟨w.heap.size, 0, none⟩) l c, _, η', ?_, by rw [slice_conc h8]; rfl, h9⟩
      have wl : IntKind.i64.wrap (l : Int) = (l : Int) := IntWalk.i64_in _ (by omega)
      have wc : IntKind.i64.wrap (c : Int) = (c : Int) := IntWalk.i64_in _ (by omega)
      have hb : (i.bytes : Int) * (c : Int) ≤ 2 ^ 47 := by
        have : ((c * i.bytes : Nat) : Int) ≤ ((2 ^ 47 : Nat) : Int) := Int.ofNat_le.2 h2
        rw [Nat.mul_comm] at this
        simpa using this
      have t1 : ¬ ((c : Int) < 0) := by omega
      have t3 : ¬ ((l : Int) < 0) := by omega
      have t4 : ¬ ((l : Int) > (c : Int)) := by omega
      have hrange : (Array.range (c * i.size)).map (fun k => zv.cells[k % zv.cells.size]!) = ⟨repsV zs c⟩ := by
        rw [z3]
        have hzp : 0 < (⟨zs⟩ : Array Value).size := by show 0 < zs.length; rw [z4]; exact ht.pos
        have := zeros_eq ⟨zs⟩ c hzp
        rw [show (⟨zs⟩ : Array Value).size = i.size from z4] at this
        rw [show (⟨zs⟩ : Array Value).size = i.size from z4]; exact this
      by_cases h0 : c * i.size = 0
      · have hl0 : c = 0 := by rcases Nat.mul_eq_zero.1 h0 with h | h; exact h; have := ht.pos; omega
        subst hl0
        have hl0 : l = 0 := by omega
        subst hl0
        have w0 : IntKind.i64.wrap 0 = 0 := by decide
        have hr0 : ∀ f : Nat → Value, (Array.range 0).map f = #[] := fun f => by apply Array.ext'; simp
        simp [Instr.makeSlice, run_und ht.und, run_ti ht.info, asInt, asIntOf, askRoom, run_size ht.info, newRow, w0, hr0, repsV]
      · simp [Instr.makeSlice, run_und ht.und, run_ti ht.info, asInt, asIntOf, wl, wc, t4, askRoom, run_size ht.info, h0, z1, newRow, hrange]
        intro hbad
        exact absurd hbad (by omega)
    · cases he
  · cases he

end
end Go.Proofs.YtmnaddlniaklcaaGreatDoor.Ev
