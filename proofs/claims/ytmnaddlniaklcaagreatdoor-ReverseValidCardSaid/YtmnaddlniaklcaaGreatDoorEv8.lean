/- An abstract interpreter of the model's code, eighth part: variables that are made and written. -/
import Derived.Test.YtmnaddlniaklcaaGreatDoorEv7
import Derived.Laws.Append
import Derived.Laws.AppendOwn
import Derived.Laws.Tables
namespace Go.Proofs.YtmnaddlniaklcaaGreatDoor.Ev
open Go
noncomputable section

theorem get_wr : ∀ (l : List At) (t : Tr At) (i j : Nat), (wr t i l).get j = if i ≤ j ∧ j < i + l.length then l[j - i]? else t.get j := by
  intro l
  induction l with
  | nil => intro t i j; simp [wr]; omega
  | cons a l ih =>
    intro t i j
    simp only [wr, ih, Tr.get_put, List.length_cons]
    by_cases h1 : j = i
    · subst h1; rw [if_neg (by omega), if_pos rfl, if_pos (by omega)]; simp
    · by_cases h2 : i + 1 ≤ j ∧ j < i + 1 + l.length
      · rw [if_pos h2, if_pos (by omega)]
        have : j - i = (j - (i + 1)) + 1 := by omega
        rw [this, List.getElem?_cons_succ]
      · rw [if_neg h2, if_neg h1, if_neg (by omega)]

/-- Cells that are written. -/
theorem Cells.wr {η : Env} {β n : Nat} {t : Tr At} {C C' : Array Value} (hC : Cells η β n t C) {o : Nat} {l : List At} {vs : List Value} (hl : concs η l = some vs) {n' : Nat} (hn : n' ≤ n ∨ n' ≤ o + l.length ∧ o ≤ n)
    (hin : ∀ (j : Nat) (v : Value), vs[j]? = some v → C'[β + o + j]? = some v) (hout : ∀ j, j < β + o ∨ β + o + l.length ≤ j → C'[j]? = C[j]?) : Cells η β n' (Ev.wr t o l) C' := by
  intro i hi
  rw [get_wr]
  have hlen := concs_length _ _ hl
  by_cases h : o ≤ i ∧ i < o + l.length
  · rw [if_pos h]
    obtain ⟨v, h1, h2⟩ := concs_get l vs hl (i - o) l[i - o] (by simp)
    refine ⟨l[i - o], v, by simp, h2, ?_⟩
    rw [← hin (i - o) v h1]; congr 1; omega
  · rw [if_neg h]
    obtain ⟨a, v, h1, h2, h3⟩ := hC i (by omega)
    exact ⟨a, v, h1, h2, by rw [hout (β + i) (by omega)]; exact h3⟩

theorem Cells.new {η : Env} {l : List At} {vs : List Value} (hl : concs η l = some vs) {C : Array Value} (hC : ∀ (j : Nat) (v : Value), vs[j]? = some v → C[j]? = some v) {n : Nat} (hn : n ≤ l.length) : Cells η 0 n (Ev.wr .nil 0 l) C :=
  Cells.wr (C := C) (n := 0) (fun i hi => by omega) hl (.inr ⟨by omega, by omega⟩) (fun j v hj => by simpa using hC j v hj) (fun _ _ => rfl)

/-- Knowledge of a block is dropped. -/
theorem Stp.drop {η : Env} {h : Hp} {w : World} {H : Tr AObj} {nx : Nat} (p : Pre η h w H.get nx nx) (b : Nat) :
    Dm H.get (H.put none b).get nx nx ∧ Stp η h w H.get (H.put none b).get nx nx η w := by
  have hsub : ∀ k, ovr h H.get (H.put none b).get nx nx k ≠ none → ovr h H.get (H.put none b).get nx nx k = h k := fun k hk => by
    by_cases hin : H.get k ≠ none ∨ (nx ≤ k ∧ k < nx)
    · rw [ovr_in hin] at hk ⊢
      by_cases e : k = b
      · subst e; rw [Tr.get_put_same] at hk; exact absurd rfl hk
      · rw [Tr.get_put_other _ _ e] at hk ⊢
        cases ho : H.get k with
        | none => exact absurd ho hk
        | some o => exact (p.ext k o ho).symm
    · rw [ovr_out hin]
  refine ⟨⟨Nat.le_refl _, fun k hk => ?_⟩, .refl η, fun _ _ => ⟨rfl, rfl, rfl⟩, ⟨fun k o hk => ?_, fun k k' K K' hk hk' => ?_⟩, ?_, .refl _ _ _⟩
  · by_cases e : k = b
    · subst e; rw [Tr.get_put_same] at hk; exact absurd rfl hk
    · rw [Tr.get_put_other _ _ e] at hk; exact .inl hk
  · exact p.rh.live k o (by rw [← hsub k (by rw [hk]; simp)]; exact hk)
  · exact p.rh.inj k k' K K' (by rw [← hsub k hk]; exact hk) (by rw [← hsub k' hk']; exact hk')
  · rintro k ⟨j, J, hj, hJ, rfl⟩
    exact .inl ⟨j, J, by rw [← hsub j hj]; exact hj, hJ, rfl⟩

/-- A block gets a new name; it alone may change. -/
theorem Stp.move {η : Env} {h : Hp} {w w' : World} {H : Tr AObj} {nx : Nat} (p : Pre η h w H.get nx (nx + 1)) {b : Nat} {B B' : Nat × Nat} {o o' : AObj} {co' : Obj} {c : Nat} (hb : H.get b = some o) (hB : η.blk b = some B) (hBB : B'.1 = B.1)
    (hw : w'.heap[B.1]? = some co') (hrest : ∀ k, k ≠ B.1 → w'.heap[k]? = w.heap[k]?) (hos : w'.os = w.os) (htape : w'.tape = w.tape) (hout : w'.output = w.output) (hsize : w.heap.size ≤ w'.heap.size)
    (hr : o'.Rel (η.set nx B' c) nx B' co') :
    Dm H.get ((H.put none b).put (some o') nx).get nx (nx + 1) ∧ Stp η h w H.get ((H.put none b).put (some o') nx).get nx (nx + 1) (η.set nx B' c) w' := by
  obtain ⟨hnb, _, _⟩ := p.fresh nx (Nat.le_refl _) (by omega)
  have hle := Env.le_set hnb B' c
  have hhb := p.ext b o hb
  have hbn : b ≠ nx := fun e => by rw [e, p.rh.fresh hnb] at hhb; cases hhb
  have hov : ovr h H.get ((H.put none b).put (some o') nx).get nx (nx + 1) = fun k => if k = nx then some o' else if k = b then none else h k := by
    funext k
    by_cases e : k = nx
    · subst e; rw [ovr_in (.inr (by omega)), Tr.get_put_same]; simp
    · by_cases hk : H.get k ≠ none
      · rw [ovr_in (.inl hk), Tr.get_put_other _ _ e]; simp only [e, if_false]
        by_cases e2 : k = b
        · subst e2; rw [Tr.get_put_same]; simp
        · rw [Tr.get_put_other _ _ e2]; simp only [e2, if_false]
          cases ho : H.get k with
          | none => exact absurd ho hk
          | some o2 => exact (p.ext k o2 ho).symm
      · have e2 : k ≠ b := fun e2 => by subst e2; rw [hb] at hk; simp at hk
        rw [ovr_out (by intro hc; rcases hc with hc | hc; exact hk hc; omega)]; simp [e, e2]
  refine ⟨⟨by omega, fun k hk => ?_⟩, hle, fun k hk => ?_, ?_, ?_, ?_⟩
  · by_cases e : k = nx
    · exact .inr (by omega)
    · rw [Tr.get_put_other _ _ e] at hk
      by_cases e2 : k = b
      · subst e2; exact .inl (by rw [hb]; simp)
      · rw [Tr.get_put_other _ _ e2] at hk; exact .inl hk
  · exact ⟨Env.set_other (by omega) _ _, rfl, rfl⟩
  · rw [hov]
    refine ⟨fun k o2 hk => ?_, fun k k' K K' hk hk' hK hK' e => ?_⟩
    · by_cases e : k = nx
      · subst e; simp at hk; subst hk; exact ⟨B', co', Env.set_same _ _ _ _, by rw [hBB]; exact hw, hr⟩
      · simp only [e, if_false] at hk
        by_cases e2 : k = b
        · subst e2; simp at hk
        · simp only [e2, if_false] at hk
          obtain ⟨K, co2, h1, h2, h3⟩ := p.rh.live k o2 hk
          exact ⟨K, co2, (hle.blk k K h1).1, by rw [hrest _ (fun e3 => e2 (p.rh.inj k b K B (by rw [hk]; simp) (by rw [hhb]; simp) h1 hB e3))]; exact h2, h3.mono hle h1⟩
    · by_cases e1 : k = nx
      · by_cases e2 : k' = nx
        · rw [e1, e2]
        · subst e1
          simp only [e2, if_false] at hk'
          rw [Env.set_same] at hK; cases hK
          rw [Env.set_other e2] at hK'
          by_cases e3 : k' = b
          · subst e3; simp at hk'
          · simp only [e3, if_false] at hk'
            exact absurd (p.rh.inj k' b K' B hk' (by rw [hhb]; simp) hK' hB (by rw [← e, hBB])) e3
      · simp only [e1, if_false] at hk
        rw [Env.set_other e1] at hK
        by_cases e0 : k = b
        · subst e0; simp at hk
        · simp only [e0, if_false] at hk
          by_cases e2 : k' = nx
          · subst e2
            rw [Env.set_same] at hK'; cases hK'
            exact absurd (p.rh.inj k b K B hk (by rw [hhb]; simp) hK hB (by rw [e, hBB])) e0
          · simp only [e2, if_false] at hk'
            rw [Env.set_other e2] at hK'
            by_cases e3 : k' = b
            · subst e3; simp at hk'
            · simp only [e3, if_false] at hk'
              exact p.rh.inj k k' K K' hk hk' hK hK' e
  · rw [hov]
    rintro k ⟨j, J, hj, hJ, rfl⟩
    by_cases e : j = nx
    · subst e; rw [Env.set_same] at hJ; cases hJ; exact .inl ⟨b, B, by rw [hhb]; simp, hB, hBB.symm⟩
    · simp only [e, if_false] at hj; rw [Env.set_other e] at hJ
      by_cases e2 : j = b
      · subst e2; simp at hj
      · simp only [e2, if_false] at hj; exact .inl ⟨j, J, hj, hJ, rfl⟩
  · exact ⟨hos, htape, hout, hsize, fun k _ hn => hrest k (fun e => hn ⟨b, B, by rw [hhb]; simp, hB, e.symm⟩)⟩

/-! ### What is asked of an operation that writes -/
def Yld (r : Result Next) (cv : Value) (w' : World) : Prop := r = .ok (.value cv) w' ∨ (r = .ok .skip w' ∧ cv = Go.undef)

def Writes1 (P : Program) (o : Oper) (tm : Tr V) (H : Tr AObj) (nx : Nat) (v : V) (H' : Tr AObj) (nx' : Nat) : Prop :=
  Dm H.get H'.get nx nx' ∧ ∀ (η : Env) (h : Hp) (w : World) (A : Act), Pre η h w H.get nx nx' → RA η tm A.tmps → η.glob P →
    ∃ cv w' η', Yld ((execOp A.eval o).run P w) cv w' ∧ v.conc η' = some cv ∧ Stp η h w H.get H'.get nx nx' η' w'

/-! ### A variable is made -/
def mk (E : Nat) (l : List At) : AObj := .cells E l.length (wr .nil 0 l)

theorem dm_alloc (H : Tr AObj) (o : AObj) (nx : Nat) : Dm H.get (H.put (some o) nx).get nx (nx + 1) :=
  ⟨by omega, fun b hb => by
    by_cases e : b = nx
    · exact .inr (by omega)
    · rw [Tr.get_put_other _ _ e] at hb; exact .inl hb⟩

theorem mk_rel {η : Env} {E : Nat} {l : List At} {vs : List Value} (hl : concs η l = some vs) (b k : Nat) : (mk E l).Rel η b (k, 0) (.cells ⟨vs⟩ E (0, 0)) :=
  ⟨⟨vs⟩, rfl, rfl, concs_length _ _ hl, Cells.new hl (fun j v hj => by simpa using hj) (Nat.le_refl _)⟩

theorem new_ok {η : Env} {h : Hp} {w : World} {H : Tr AObj} {nx : Nat} (p : Pre η h w H.get nx (nx + 1)) {E : Nat} {l : List At} {vs : List Value} (hl : concs η l = some vs) :
    ∃ η', (At.ptr nx 0).conc η' = some (.pointer (some ⟨w.heap.size, 0, none⟩)) ∧ η'.blk nx = some (w.heap.size, 0) ∧ Stp η h w H.get (H.put (some (mk E l)) nx).get nx (nx + 1) η' (w.alloc (.cells ⟨vs⟩ E)) := by
  obtain ⟨hnb, _, _⟩ := p.fresh nx (Nat.le_refl _) (by omega)
  have hs := Stp.alloc p (.cells ⟨vs⟩ E) (mk E l) 0 ⟨rfl, rfl, rfl, rfl⟩ (mk_rel (concs_mono (Env.le_set hnb _ _) _ _ hl) _ _)
  exact ⟨_, by simp [At.conc, Env.set_same, adr], Env.set_same _ _ _ _, hs.2⟩

def evAlloc (P : Program) (H : Tr AObj) (nx : Nat) (t : TypeId) : Option (V × Tr AObj × Nat) :=
  match zeroA P t with
  | some (_, z) => some (.one (.ptr nx 0), H.put (some (mk t z)) nx, nx + 1)
  | none => none
def evBox (H : Tr AObj) (nx : Nat) (t : TypeId) (v : V) : Option (V × Tr AObj × Nat) :=
  match v with
  | .c _ l => some (.one (.ptr nx 0), H.put (some (mk t l)) nx, nx + 1)
  | _ => none

theorem evAlloc_ok {P : Program} {H : Tr AObj} {nx : Nat} {t : TypeId} {v : V} {H' : Tr AObj} {nx' : Nat} (he : evAlloc P H nx t = some (v, H', nx')) :
    Dm H.get H'.get nx nx' ∧ ∀ {η : Env} {h : Hp} {w : World}, Pre η h w H.get nx nx' → ∃ cv w' η', (Instr.alloc t true (.tuple #[])).run P w = .ok cv w' ∧ v.conc η' = some cv ∧ Stp η h w H.get H'.get nx nx' η' w' := by
  unfold evAlloc at he
  split at he
  · rename_i g z hz
    cases he
    refine ⟨dm_alloc _ _ _, fun p => ?_⟩
    rename_i η h w
    obtain ⟨zv, hz1, hz2⟩ := zeroA_ok hz η w
    obtain ⟨zs, hz3, hz4⟩ := cells_conc (g := g) hz1
    obtain ⟨η', h1, _, h2⟩ := new_ok (E := t) p hz3
    refine ⟨_, _, η', ?_, one_conc.2 h1, h2⟩
    simp [Instr.alloc, hz2, newVar, newRow, hz4]
  · cases he

theorem evBox_ok {P : Program} {H : Tr AObj} {nx : Nat} {t : TypeId} {x : V} {v : V} {H' : Tr AObj} {nx' : Nat} (he : evBox H nx t x = some (v, H', nx')) :
    Dm H.get H'.get nx nx' ∧ ∀ {η : Env} {h : Hp} {w : World} {cx : Value}, Pre η h w H.get nx nx' → x.conc η = some cx → ∃ cv w' η', (Instr.box t cx).run P w = .ok cv w' ∧ v.conc η' = some cv ∧ Stp η h w H.get H'.get nx nx' η' w' := by
  unfold evBox at he
  split at he
  · rename_i g l
    cases he
    refine ⟨dm_alloc _ _ _, fun p hx => ?_⟩
    obtain ⟨xs, hx3, hx4⟩ := cells_conc hx
    obtain ⟨η', h1, _, h2⟩ := new_ok (E := t) p hx3
    refine ⟨_, _, η', ?_, one_conc.2 h1, h2⟩
    simp [Instr.box, newVar, newRow, hx4]
  · cases he

/-! ### A row is written -/
/-- Cells of a block are written: the block behind it. -/
def put (o : AObj) (i : Nat) (l : List At) : Option AObj :=
  match o with
  | .cells E n t => match Nat.ble (i + l.length) n with | true => some (.cells E n (wr t i l)) | false => none
  | .lcells E n s t => match Nat.ble (i + l.length) n with | true => some (.lcells E n s (wr t i l)) | false => none
  | _ => none

theorem dm_set {H : Tr AObj} {b : Nat} {o : AObj} (hb : H.get b = some o) (o' : AObj) (nx : Nat) : Dm H.get (H.put (some o') b).get nx nx :=
  ⟨Nat.le_refl _, fun k hk => by
    by_cases e : k = b
    · subst e; exact .inl (by rw [hb]; simp)
    · rw [Tr.get_put_other _ _ e] at hk; exact .inl hk⟩

theorem concs_one {η : Env} : ∀ (l : List At) (vs : List Value), concs η l = some vs → ∀ v ∈ vs, v.oneCell' = true := by
  intro l
  induction l with
  | nil => intro vs h v hv; simp [concs] at h; subst h; cases hv
  | cons a l ih =>
    intro vs h v hv
    simp only [concs] at h
    cases ha : a.conc η with
    | none => simp [ha] at h
    | some u => cases hl : concs η l with
      | none => simp [ha, hl] at h
      | some ws =>
        simp [ha, hl] at h; subst h
        rcases List.mem_cons.1 hv with rfl | hv
        · exact At.conc_one ha
        · exact ih ws hl v hv

theorem mid_in {α : Type} (C vs : List α) (k : Nat) (hk : k ≤ C.length) (j : Nat) (v : α) (hj : vs[j]? = some v) : (C.take k ++ vs ++ C.drop (k + vs.length))[k + j]? = some v := by
  have hlt : j < vs.length := (List.getElem?_eq_some_iff.1 hj).1
  have e : min k C.length = k := by omega
  simp only [List.getElem?_append, List.length_append, List.length_take, e]
  rw [if_pos (by omega), if_neg (by omega)]
  rw [show k + j - k = j by omega]; exact hj
theorem mid_out {α : Type} (C vs : List α) (k : Nat) (hk : k + vs.length ≤ C.length) (j : Nat) (hj : j < k ∨ k + vs.length ≤ j) : (C.take k ++ vs ++ C.drop (k + vs.length))[j]? = C[j]? := by
  have e : min k C.length = k := by omega
  simp only [List.getElem?_append, List.length_append, List.length_take, e, List.getElem?_take, List.getElem?_drop]
  rcases hj with hj | hj
  · rw [if_pos (by omega), if_pos hj, if_pos hj]
  · rw [if_neg (by omega)]; congr 1; omega

/-- The store itself. -/
theorem put_ok {P : Program} {H : Tr AObj} {nx b i : Nat} {o o' : AObj} {l : List At} (hb : H.get b = some o) (hp : put o i l = some o') {η : Env} {h : Hp} {w : World} (p : Pre η h w H.get nx nx) {vs : List Value} (hl : concs η l = some vs) :
    ∃ B w', η.blk b = some B ∧ (storeCells (adr B i) vs).run P w = .ok () w' ∧ Stp η h w H.get (H.put (some o') b).get nx nx η w' := by
  obtain ⟨B, co, hB, hw, hrel⟩ := p.rh.live b o (p.ext b o hb)
  have hlen := concs_length _ _ hl
  have key : ∀ (C : Array Value) (E : Nat), w.heap[B.1]? = some (.cells C E (0, 0)) → B.2 + i + vs.length ≤ C.size →
      (∀ C' : Array Value, C'.size = C.size → (∀ j v, vs[j]? = some v → C'[B.2 + i + j]? = some v) → (∀ j, j < B.2 + i ∨ B.2 + i + l.length ≤ j → C'[j]? = C[j]?) → o'.Rel η b B (.cells C' E (0, 0))) →
      ∃ B w', η.blk b = some B ∧ (storeCells (adr B i) vs).run P w = .ok () w' ∧ Stp η h w H.get (H.put (some o') b).get nx nx η w' := by
    intro C E hC hfit hR
    have hrun := run_storeCells_at (P := P) B.1 (B.2 + i) E vs 0 C w hC (by omega) (concs_one l vs hl)
    refine ⟨B, _, hB, hrun, ?_⟩
    have hfit' : B.2 + i + vs.length ≤ C.toList.length := by simpa using hfit
    refine (Stp.set p hb hB (setRow_heap w B.1 C _ E _ hC) (fun k hk => setRow_other w B.1 k _ hk) rfl rfl rfl (by simp [World.setRow]) (hR _ ?_ ?_ ?_)).2
    · simp; omega
    · intro j v hj
      have := mid_in C.toList vs (B.2 + i) (by omega) j v hj
      simpa using this
    · intro j hj
      have := mid_out C.toList vs (B.2 + i) hfit' j (by omega)
      simpa using this
  unfold put at hp
  split at hp
  · rename_i E n t
    split at hp
    · rename_i hle
      cases hp
      have hle := Nat.le_of_ble_eq_true hle
      obtain ⟨C, rfl, hβ, hs, hC⟩ := hrel
      refine key C E hw (by omega) (fun C' h1 h2 h3 => ⟨C', rfl, hβ, by omega, ?_⟩)
      rw [hβ] at h2 h3
      exact hC.wr hl (.inl (Nat.le_refl _)) h2 h3
    · cases hp
  · rename_i E n s t
    split at hp
    · rename_i hle
      cases hp
      have hle := Nat.le_of_ble_eq_true hle
      obtain ⟨C, rfl, h1, h2, h3, hC⟩ := hrel
      refine key C E hw (by omega) (fun C' g1 g2 g3 => ⟨C', rfl, by omega, h2, h3, hC.wr hl (.inl (Nat.le_refl _)) g2 g3⟩)
    · cases hp
  · cases hp

def evStore (P : Program) (H : Tr AObj) (nx : Nat) (t : TypeId) (a : At) (x : V) : Option (V × Tr AObj × Nat) :=
  match a, x with
  | .ptr b i, .c _ l => match P.info? t, H.get b with
    | some ti, some o => match Nat.beq l.length ti.size, put o i l with
      | true, some o' => some (V.undef, H.put (some o') b, nx)
      | _, _ => none
    | _, _ => none
  | _, _ => none

theorem evStore_ok {P : Program} {H : Tr AObj} {nx : Nat} {t : TypeId} {a : At} {x : V} {v : V} {H' : Tr AObj} {nx' : Nat} (he : evStore P H nx t a x = some (v, H', nx')) :
    v = V.undef ∧ Dm H.get H'.get nx nx' ∧ ∀ {η : Env} {h : Hp} {w : World} {ca cx : Value}, Pre η h w H.get nx nx' → a.conc η = some ca → x.conc η = some cx → ∃ w', (Instr.storeAt t ca cx).run P w = .ok () w' ∧ Stp η h w H.get H'.get nx nx' η w' := by
  unfold evStore at he
  split at he
  · rename_i b i g l
    split at he
    · rename_i ti o hti hb
      split at he
      · rename_i o' hlen hput
        cases he
        refine ⟨rfl, dm_set hb _ _, fun p ha hx => ?_⟩
        obtain ⟨xs, hx3, hx4⟩ := cells_conc hx
        obtain ⟨B, w', hB, hrun, hs⟩ := put_ok (P := P) hb hput p hx3
        obtain ⟨B', hB', rfl⟩ := conc_ptr ha
        obtain rfl : B = B' := Option.some.inj (hB.symm.trans hB')
        refine ⟨w', ?_, hs⟩
        have hl := concs_length _ _ hx3
        have hsz : (⟨xs⟩ : Array Value).size = ti.size := by show xs.length = _; rw [hl]; exact Nat.eq_of_beq_eq_true hlen
        simp only [Instr.storeAt, Instr.sureAddr, storeVar, Sem.run_bind, Sem.run_pure, Result.andThen_ok, run_size hti, hx4, hsz, ne_eq, not_true, if_false]
        exact hrun
      · cases he
    · cases he
  · cases he

end
end Go.Proofs.YtmnaddlniaklcaaGreatDoor.Ev
