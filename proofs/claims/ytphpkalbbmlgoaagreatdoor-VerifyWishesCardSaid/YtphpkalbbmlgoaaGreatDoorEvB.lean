/- An abstract interpreter of the model's code, eighth part: variables that are made and written. -/
import Derived.Test.YtphpkalbbmlgoaaGreatDoorEvA
import Derived.Laws.Append
import Derived.Laws.AppendOwn
import Derived.Laws.Tables
namespace Go.Proofs.YtphpkalbbmlgoaaGreatDoor.Ev
open Go
noncomputable section

theorem get_wr : ∀ (l : List At) (t : Tr At) (i j : Nat), (wr t i l).get j = if i ≤ j ∧ j < i + l.length then l[j - i]? else t.get j := by
  intro l
  induction l with
  | nil => intro t i j; simp [wr]; omega
  | cons a l ih =>
    intro t i j
    simp only [wr, ih, Tr.get_put, List.length_cons]
    by_cases h1 : j = i
    · subst h1; rw [if_neg (by omega), if_pos rfl, if_pos (by omega)]; simp
    · by_cases h2 : i + 1 ≤ j ∧ j < i + 1 + l.length
      · rw [if_pos h2, if_pos (by omega)]
        have : j - i = (j - (i + 1)) + 1 := by omega
        rw [this, List.getElem?_cons_succ]
      · rw [if_neg h2, if_neg h1, if_neg (by omega)]

theorem Cells.wr {η : Env} {β n : Nat} {t : Tr At} {C C' : Array Value} (hC : Cells η β n t C) {o : Nat} {l : List At} {vs : List Value} (hl : concs η l = some vs) {n' : Nat} (hn : n' ≤ n ∨ n' ≤ o + l.length ∧ o ≤ n)
    (hin : ∀ (j : Nat) (v : Value), vs[j]? = some v → C'[β + o + j]? = some v) (hout : ∀ j, j < β + o ∨ β + o + l.length ≤ j → C'[j]? = C[j]?) : Cells η β n' (Ev.wr t o l) C' := by
  intro i hi
  rw [get_wr]
  have hlen := concs_length _ _ hl
  by_cases h : o ≤ i ∧ i < o + l.length
  · rw [if_pos h]
    obtain ⟨v, h1, h2⟩ := concs_get l vs hl (i - o) l[i - o] (by simp)
    refine ⟨l[i - o], v, by simp, h2, ?_⟩
    rw [← hin (i - o) v h1]; congr 1; omega
  · rw [if_neg h]
    obtain ⟨a, v, h1, h2, h3⟩ := hC i (by omega)
    exact ⟨a, v, h1, h2, by rw [hout (β + i) (by omega)]; exact h3⟩

theorem Cells.new {η : Env} {l : List At} {vs : List Value} (hl : concs η l = some vs) {C : Array Value} (hC : ∀ (j : Nat) (v : Value), vs[j]? = some v → C[j]? = some v) {n : Nat} (hn : n ≤ l.length) : Cells η 0 n (Ev.wr .nil 0 l) C :=
  Cells.wr (C := C) (n := 0) (fun i hi => by omega) hl (.inr ⟨by omega, by omega⟩) (fun j v hj => by simpa using hC j v hj) (fun _ _ => rfl)

theorem Stp.drop {η : Env} {h : Hp} {w : World} {H : Tr AObj} {nx : Nat} (p : Pre η h w H.get nx nx) (b : Nat) :
    Dm H.get (H.put none b).get nx nx ∧ Stp η h w H.get (H.put none b).get nx nx η w := by
  have hsub : ∀ k, ovr h H.get (H.put none b).get nx nx k ≠ none → ovr h H.get (H.put none b).get nx nx k = h k := fun k hk => by
    by_cases hin : H.get k ≠ none ∨ (nx ≤ k ∧ k < nx)
    · rw [ovr_in hin] at hk ⊢
      by_cases e : k = b
      · subst e; rw [Tr.get_put_same] at hk; exact absurd rfl hk
      · rw [Tr.get_put_other _ _ e] at hk ⊢
        cases ho : H.get k with
        | none => exact absurd ho hk
        | some o => exact (p.ext k o ho).symm
    · rw [ovr_out hin]
  refine ⟨⟨Nat.le_refl _, fun k hk => ?_⟩, .refl η, fun _ _ => ⟨rfl, rfl, rfl⟩, ⟨fun k o hk => ?_, fun k k' K K' hk hk' => ?_⟩, ?_, .refl _ _ _⟩
  · by_cases e : k = b
    · subst e; rw [Tr.get_put_same] at hk; exact absurd rfl hk
    · rw [Tr.get_put_other _ _ e] at hk; exact .inl hk
  · exact p.rh.live k o (by rw [← hsub k (by rw [hk]; simp)]; exact hk)
  · exact p.rh.inj k k' K K' (by rw [← hsub k hk]; exact hk) (by rw [← hsub k' hk']; exact hk')
  · rintro k ⟨j, J, hj, hJ, rfl⟩
    exact .inl ⟨j, J, by rw [← hsub j hj]; exact hj, hJ, rfl⟩

theorem Stp.move {η : Env} {h : Hp} {w w' : World} {H : Tr AObj} {nx : Nat} (p : Pre η h w H.get nx (nx + 1)) {b : Nat} {B B' : Nat × Nat} {o o' : AObj} {co' : Obj} {c : Nat} (hb : H.get b = some o) (hB : η.blk b = some B) (hBB : B'.1 = B.1)
    (hw : w'.heap[B.1]? = some co') (hrest : ∀ k, k ≠ B.1 → w'.heap[k]? = w.heap[k]?) (hos : w'.os = w.os) (htape : w'.tape = w.tape) (hout : w'.output = w.output) (hsize : w.heap.size ≤ w'.heap.size)
    (hr : o'.Rel (η.set nx B' c) nx B' co') :
    Dm H.get ((H.put none b).put (some o') nx).get nx (nx + 1) ∧ Stp η h w H.get ((H.put none b).put (some o') nx).get nx (nx + 1) (η.set nx B' c) w' := by
  obtain ⟨hnb, _, _⟩ := p.fresh nx (Nat.le_refl _) (by omega)
  have hle := Env.le_set hnb B' c
  have hhb := p.ext b o hb
  have hbn : b ≠ nx := fun e => by rw [e, p.rh.fresh hnb] at hhb; cases hhb
  have hov : ovr h H.get ((H.put none b).put (some o') nx).get nx (nx + 1) = fun k => if k = nx then some o' else if k = b then none else h k := by
    funext k
    by_cases e : k = nx
    · subst e; rw [ovr_in (.inr (by omega)), Tr.get_put_same]; simp
    · by_cases hk : H.get k ≠ none
      · rw [ovr_in (.inl hk), Tr.get_put_other _ _ e]; simp only [e, if_false]
        by_cases e2 : k = b
        · subst e2; rw [Tr.get_put_same]; simp
        · rw [Tr.get_put_other _ _ e2]; simp only [e2, if_false]
          cases ho : H.get k with
          | none => exact absurd ho hk
          | some o2 => exact (p.ext k o2 ho).symm
      · have e2 : k ≠ b := fun e2 => by subst e2; rw [hb] at hk; simp at hk
        rw [ovr_out (by intro hc; rcases hc with hc | hc; exact hk hc; omega)]; simp [e, e2]
  refine ⟨⟨by omega, fun k hk => ?_⟩, hle, fun k hk => ?_, ?_, ?_, ?_⟩
  · by_cases e : k = nx
    · exact .inr (by omega)
    · rw [Tr.get_put_other _ _ e] at hk
      by_cases e2 : k = b
      · subst e2; exact .inl (by rw [hb]; simp)
      · rw [Tr.get_put_other _ _ e2] at hk; exact .inl hk
  · exact ⟨Env.set_other (by omega) _ _, rfl, rfl⟩
  · rw [hov]
    refine ⟨fun k o2 hk => ?_, fun k k' K K' hk hk' hK hK' e => ?_⟩
    · by_cases e : k = nx
      · subst e; simp at hk; subst hk; exact ⟨B', co', Env.set_same _ _ _ _, by rw [hBB]; exact hw, hr⟩
      · simp only [e, if_false] at hk
        by_cases e2 : k = b
        · subst e2; simp at hk
        · simp only [e2, if_false] at hk
          obtain ⟨K, co2, h1, h2, h3⟩ := p.rh.live k o2 hk
          exact ⟨K, co2, (hle.blk k K h1).1, by rw [hrest _ (fun e3 => e2 (p.rh.inj k b K B (by rw [hk]; simp) (by rw [hhb]; simp) h1 hB e3))]; exact h2, h3.mono hle h1⟩
    · by_cases e1 : k = nx
      · by_cases e2 : k' = nx
        · rw [e1, e2]
        · subst e1
          simp only [e2, if_false] at hk'
          rw [Env.set_same] at hK; cases hK
          rw [Env.set_other e2] at hK'
          by_cases e3 : k' = b
          · subst e3; simp at hk'
          · simp only [e3, if_false] at hk'
            exact absurd (p.rh.inj k' b K' B hk' (by rw [hhb]; simp) hK' hB (by rw [← e, hBB])) e3
      · simp only [e1, if_false] at hk
        rw [Env.set_other e1] at hK
        by_cases e0 : k = b
        · subst e0; simp at hk
        · simp only [e0, if_false] at hk
          by_cases e2 : k' = nx
          · subst e2
            rw [Env.set_same] at hK'; cases hK'
            exact absurd (p.rh.inj k b K B hk (by rw [hhb]; simp) hK hB (by rw [e, hBB])) e0
          · simp only [e2, if_false] at hk'
            rw [Env.set_other e2] at hK'
            by_cases e3 : k' = b
            · subst e3; simp at hk'
            · simp only [e3, if_false] at hk'
              exact p.rh.inj k k' K K' hk hk' hK hK' e
  · rw [hov]
    rintro k ⟨j, J, hj, hJ, rfl⟩
    by_cases e : j = nx
    · subst e; rw [Env.set_same] at hJ; cases hJ; exact .inl ⟨b, B, by rw [hhb]; simp, hB, hBB.symm⟩
    · simp only [e, if_false] at hj; rw [Env.set_other e] at hJ
      by_cases e2 : j = b
      · subst e2; simp at hj
      · simp only [e2, if_false] at hj; exact .inl ⟨j, J, hj, hJ, rfl⟩
  · exact ⟨hos, htape, hout, hsize, fun k _ hn => hrest k (fun e => hn ⟨b, B, by rw [hhb]; simp, hB, e.symm⟩)⟩

def Yld (r : Result Next) (cv : Value) (w' : World) : Prop := r = .ok (.value cv) w' ∨ (r = .ok .skip w' ∧ cv = Go.undef)

def Writes1 (P : Program) (o : Oper) (tm : Tr V) (H : Tr AObj) (nx : Nat) (v : V) (H' : Tr AObj) (nx' : Nat) : Prop :=
  Dm H.get H'.get nx nx' ∧ ∀ (η : Env) (h : Hp) (w : World) (A : Act), Pre η h w H.get nx nx' → RA η tm A.tmps → η.glob P →
    ∃ cv w' η', Yld ((execOp A.eval o).run P w) cv w' ∧ v.conc η' = some cv ∧ Stp η h w H.get H'.get nx nx' η' w'

def mk (E : Nat) (l : List At) : AObj := .cells E l.length (wr .nil 0 l)

theorem dm_alloc (H : Tr AObj) (o : AObj) (nx : Nat) : Dm H.get (H.put (some o) nx).get nx (nx + 1) :=
  ⟨by omega, fun b hb => by
    by_cases e : b = nx
    · exact .inr (by omega)
    · rw [Tr.get_put_other _ _ e] at hb; exact .inl hb⟩

theorem mk_rel {η : Env} {E : Nat} {l : List At} {vs : List Value} (hl : concs η l = some vs) (b k : Nat) : (mk E l).Rel η b (k, 0) (.cells ⟨vs⟩ E (0, 0)) :=
  ⟨⟨vs⟩, rfl, rfl, concs_length _ _ hl, Cells.new hl (fun j v hj => by simpa using hj) (Nat.le_refl _)⟩

theorem new_ok {η : Env} {h : Hp} {w : World} {H : Tr AObj} {nx : Nat} (p : Pre η h w H.get nx (nx + 1)) {E : Nat} {l : List At} {vs : List Value} (hl : concs η l = some vs) :
    ∃ η', (At.ptr nx 0).conc η' = some (.pointer (some ⟨w.heap.size, 0, none⟩)) ∧ η'.blk nx = some (w.heap.size, 0) ∧ Stp η h w H.get (H.put (some (mk E l)) nx).get nx (nx + 1) η' (w.alloc (.cells ⟨vs⟩ E)) := by
  obtain ⟨hnb, _, _⟩ := p.fresh nx (Nat.le_refl _) (by omega)
  have hs := Stp.alloc p (.cells ⟨vs⟩ E) (mk E l) 0 ⟨rfl, rfl, rfl, rfl⟩ (mk_rel (concs_mono (Env.le_set hnb _ _) _ _ hl) _ _)
  exact ⟨_, by simp [At.conc, Env.set_same, adr], Env.set_same _ _ _ _, hs.2⟩

def evAlloc (P : Program) (H : Tr AObj) (nx : Nat) (t : TypeId) : Option (V × Tr AObj × Nat) :=
  match zeroA P t with
  | some (_, z) => some (.one (.ptr nx 0), H.put (some (mk t z)) nx, nx + 1)
  | none => none

def evBox (H : Tr AObj) (nx : Nat) (t : TypeId) (v : V) : Option (V × Tr AObj × Nat) :=
  match v with
  | .c _ l => some (.one (.ptr nx 0), H.put (some (mk t l)) nx, nx + 1)
  | _ => none

theorem evAlloc_ok {P : Program} {H : Tr AObj} {nx : Nat} {t : TypeId} {v : V} {H' : Tr AObj} {nx' : Nat} (he : evAlloc P H nx t = some (v, H', nx')) :
    Dm H.get H'.get nx nx' ∧ ∀ {η : Env} {h : Hp} {w : World}, Pre η h w H.get nx nx' → ∃ cv w' η', (Instr.alloc t true (.tuple #[])).run P w = .ok cv w' ∧ v.conc η' = some cv ∧ Stp η h w H.get H'.get nx nx' η' w' := by
  unfold evAlloc at he
  split at he
  · rename_i g z hz
    cases he
    refine ⟨dm_alloc _ _ _, fun p => ?_⟩
    rename_i η h w
    obtain ⟨zv, hz1, hz2⟩ := zeroA_ok hz η w
    obtain ⟨zs, hz3, hz4⟩ := cells_conc (g := g) hz1
    obtain ⟨η', h1, _, h2⟩ := new_ok (E := t) p hz3
    refine ⟨_, _, η', ?_, one_conc.2 h1, h2⟩
    simp [Instr.alloc, hz2, newVar, newRow, hz4]
  · cases he

theorem evBox_ok {P : Program} {H : Tr AObj} {nx : Nat} {t : TypeId} {x : V} {v : V} {H' : Tr AObj} {nx' : Nat} (he : evBox H nx t x = some (v, H', nx')) :
    Dm H.get H'.get nx nx' ∧ ∀ {η : Env} {h : Hp} {w : World} {cx : Value}, Pre η h w H.get nx nx' → x.conc η = some cx → ∃ cv w' η', (Instr.box t cx).run P w = .ok cv w' ∧ v.conc η' = some cv ∧ Stp η h w H.get H'.get nx nx' η' w' := by
  unfold evBox at he
  split at he
  · rename_i g l
    cases he
    refine ⟨dm_alloc _ _ _, fun p hx => ?_⟩
    obtain ⟨xs, hx3, hx4⟩ := cells_conc hx
    obtain ⟨η', h1, _, h2⟩ := new_ok (E := t) p hx3
    refine ⟨_, _, η', ?_, one_conc.2 h1, h2⟩
    simp [Instr.box, newVar, newRow, hx4]
  · cases he

def put (o : AObj) (i : Nat) (l : List At) : Option AObj :=
  match o with
  | .cells E n t => match Nat.ble (i + l.length) n with | true => some (.cells E n (wr t i l)) | false => none
  | .lcells E n s t => match Nat.ble (i + l.length) n with | true => some (.lcells E n s (wr t i l)) | false => none
  | _ => none

theorem dm_set {H : Tr AObj} {b : Nat} {o : AObj} (hb : H.get b = some o) (o' : AObj) (nx : Nat) : Dm H.get (H.put (some o') b).get nx nx :=
  ⟨Nat.le_refl _, fun k hk => by
    by_cases e : k = b
    · subst e; exact .inl (by rw [hb]; simp)
    · rw [Tr.get_put_other _ _ e] at hk; exact .inl hk⟩

theorem concs_one {η : Env} : ∀ (l : List At) (vs : List Value), concs η l = some vs → ∀ v ∈ vs, v.oneCell' = true := by
  intro l
  induction l with
  | nil => intro vs h v hv; simp [concs] at h; subst h; cases hv
  | cons a l ih =>
    intro vs h v hv
    simp only [concs] at h
    cases ha : a.conc η with
    | none => simp [ha] at h
    | some u => cases hl : concs η l with
      | none => simp [ha, hl] at h
      | some ws =>
        simp [ha, hl] at h; subst h
        rcases List.mem_cons.1 hv with rfl | hv
        · exact At.conc_one ha
        · exact ih ws hl v hv

theorem mid_in {α : Type} (C vs : List α) (k : Nat) (hk : k ≤ C.length) (j : Nat) (v : α) (hj : vs[j]? = some v) : (C.take k ++ vs ++ C.drop (k + vs.length))[k + j]? = some v := by
  have hlt : j < vs.length := (List.getElem?_eq_some_iff.1 hj).1
  have e : min k C.length = k := by omega
  simp only [List.getElem?_append, List.length_append, List.length_take, e]
  rw [if_pos (by omega), if_neg (by omega)]
  rw [show k + j - k = j by omega]; exact hj

theorem mid_out {α : Type} (C vs : List α) (k : Nat) (hk : k + vs.length ≤ C.length) (j : Nat) (hj : j < k ∨ k + vs.length ≤ j) : (C.take k ++ vs ++ C.drop (k + vs.length))[j]? = C[j]? := by
  have e : min k C.length = k := by omega
  simp only [List.getElem?_append, List.length_append, List.length_take, e, List.getElem?_take, List.getElem?_drop]
  rcases hj with hj | hj
  · rw [if_pos (by omega), if_pos hj, if_pos hj]
  · rw [if_neg (by omega)]; congr 1; omega

theorem put_ok {P : Program} {H : Tr AObj} {nx b i : Nat} {o o' : AObj} {l : List At} (hb : H.get b = some o) (hp : put o i l = some o') {η : Env} {h : Hp} {w : World} (p : Pre η h w H.get nx nx) {vs : List Value} (hl : concs η l = some vs) :
    ∃ B w', η.blk b = some B ∧ (storeCells (adr B i) vs).run P w = .ok () w' ∧ Stp η h w H.get (H.put (some o') b).get nx nx η w' := by
  obtain ⟨B, co, hB, hw, hrel⟩ := p.rh.live b o (p.ext b o hb)
  have hlen := concs_length _ _ hl
  have key : ∀ (C : Array Value) (E : Nat), w.heap[B.1]? = some (.cells C E (0, 0)) → B.2 + i + vs.length ≤ C.size →
      (∀ C' : Array Value, C'.size = C.size → (∀ j v, vs[j]? = some v → C'[B.2 + i + j]? = some v) → (∀ j, j < B.2 + i ∨ B.2 + i + l.length ≤ j → C'[j]? = C[j]?) → o'.Rel η b B (.cells C' E (0, 0))) →
      ∃ B w', η.blk b = some B ∧ (storeCells (adr B i) vs).run P w = .ok () w' ∧ Stp η h w H.get (H.put (some o') b).get nx nx η w' := by
    intro C E hC hfit hR
    have hrun := run_storeCells_at (P := P) B.1 (B.2 + i) E vs 0 C w hC (by omega) (concs_one l vs hl)
    refine ⟨B, _, hB, hrun, ?_⟩
    have hfit' : B.2 + i + vs.length ≤ C.toList.length := by simpa using hfit
    refine (Stp.set p hb hB (setRow_heap w B.1 C _ E _ hC) (fun k hk => setRow_other w B.1 k _ hk) rfl rfl rfl (by simp [World.setRow]) (hR _ ?_ ?_ ?_)).2
    · simp; omega
    · intro j v hj
      have := mid_in C.toList vs (B.2 + i) (by omega) j v hj
      simpa using this
    · intro j hj
      have := mid_out C.toList vs (B.2 + i) hfit' j (by omega)
      simpa using this
  unfold put at hp
  split at hp
  · rename_i E n t
    split at hp
    · rename_i hle
      cases hp
      have hle := Nat.le_of_ble_eq_true hle
      obtain ⟨C, rfl, hβ, hs, hC⟩ := hrel
      refine key C E hw (by omega) (fun C' h1 h2 h3 => ⟨C', rfl, hβ, by omega, ?_⟩)
      rw [hβ] at h2 h3
      exact hC.wr hl (.inl (Nat.le_refl _)) h2 h3
    · cases hp
  · rename_i E n s t
    split at hp
    · rename_i hle
      cases hp
      have hle := Nat.le_of_ble_eq_true hle
      obtain ⟨C, rfl, h1, h2, h3, hC⟩ := hrel
      refine key C E hw (by omega) (fun C' g1 g2 g3 => ⟨C', rfl, by omega, h2, h3, hC.wr hl (.inl (Nat.le_refl _)) g2 g3⟩)
    · cases hp
  · cases hp

def evStore (P : Program) (H : Tr AObj) (nx : Nat) (t : TypeId) (a : At) (x : V) : Option (V × Tr AObj × Nat) :=
  match a, x with
  | .ptr b i, .c _ l => match P.info? t, H.get b with
    | some ti, some o => match Nat.beq l.length ti.size, put o i l with
      | true, some o' => some (V.undef, H.put (some o') b, nx)
      | _, _ => none
    | _, _ => none
  | _, _ => none

theorem evStore_ok {P : Program} {H : Tr AObj} {nx : Nat} {t : TypeId} {a : At} {x : V} {v : V} {H' : Tr AObj} {nx' : Nat} (he : evStore P H nx t a x = some (v, H', nx')) :
    v = V.undef ∧ Dm H.get H'.get nx nx' ∧ ∀ {η : Env} {h : Hp} {w : World} {ca cx : Value}, Pre η h w H.get nx nx' → a.conc η = some ca → x.conc η = some cx → ∃ w', (Instr.storeAt t ca cx).run P w = .ok () w' ∧ Stp η h w H.get H'.get nx nx' η w' := by
  unfold evStore at he
  split at he
  · rename_i b i g l
    split at he
    · rename_i ti o hti hb
      split at he
      · rename_i o' hlen hput
        cases he
        refine ⟨rfl, dm_set hb _ _, fun p ha hx => ?_⟩
        obtain ⟨xs, hx3, hx4⟩ := cells_conc hx
        obtain ⟨B, w', hB, hrun, hs⟩ := put_ok (P := P) hb hput p hx3
        obtain ⟨B', hB', rfl⟩ := conc_ptr ha
        obtain rfl : B = B' := Option.some.inj (hB.symm.trans hB')
        refine ⟨w', ?_, hs⟩
        have hl := concs_length _ _ hx3
        have hsz : (⟨xs⟩ : Array Value).size = ti.size := by show xs.length = _; rw [hl]; exact Nat.eq_of_beq_eq_true hlen
        simp only [Instr.storeAt, Instr.sureAddr, storeVar, Sem.run_bind, Sem.run_pure, Result.andThen_ok, run_size hti, hx4, hsz, ne_eq, not_true, if_false]
        exact hrun
      · cases he
    · cases he
  · cases he

end
end Go.Proofs.YtphpkalbbmlgoaaGreatDoor.Ev

namespace Go.Proofs.YtphpkalbbmlgoaaGreatDoor.Ev
open Go
noncomputable section

def reps (z : List At) : Nat → List At
  | 0 => []
  | n + 1 => z ++ reps z n

def repsV (z : List Value) : Nat → List Value
  | 0 => []
  | n + 1 => z ++ repsV z n

theorem reps_conc {η : Env} {z : List At} {zs : List Value} (h : concs η z = some zs) : ∀ n, concs η (reps z n) = some (repsV zs n)
  | 0 => rfl
  | n + 1 => concs_append _ _ _ _ h (reps_conc h n)

theorem repsV_length (z : List Value) : ∀ n, (repsV z n).length = n * z.length
  | 0 => by simp [repsV]
  | n + 1 => by simp [repsV, repsV_length z n, Nat.succ_mul]; omega

theorem repsV_get (z : List Value) (hz : 0 < z.length) : ∀ n i, i < n * z.length → (repsV z n)[i]? = z[i % z.length]?
  | 0, i, h => by simp at h
  | n + 1, i, h => by
    simp only [repsV, List.getElem?_append]
    by_cases hi : i < z.length
    · rw [if_pos hi, Nat.mod_eq_of_lt hi]
    · rw [if_neg hi, repsV_get z hz n (i - z.length) (by rw [Nat.succ_mul] at h; omega)]
      congr 1
      rw [Nat.mod_eq_sub_mod (a := i) (by omega)]

theorem zeros_eq (z : Array Value) (n : Nat) (hz : 0 < z.size) : (Array.range (n * z.size)).map (fun i => z[i % z.size]!) = ⟨repsV z.toList n⟩ := by
  apply Array.ext'
  apply List.ext_getElem?
  intro i
  have hz' : 0 < z.toList.length := by simpa using hz
  by_cases hi : i < n * z.size
  · have hm : i % z.size < z.size := Nat.mod_lt _ hz
    have h2 := repsV_get z.toList hz' n i (by simpa using hi)
    rw [h2]
    simp [hi, hm]
  · rw [List.getElem?_eq_none (by simp; omega), List.getElem?_eq_none (by rw [repsV_length]; simp; omega)]

def pos (n : Nat) : Bool := Nat.blt 0 n

structure SlT (P : Program) (t : TypeId) (e : TypeId) (i : TypeInfo) (z : List At) : Prop where
  und : P.underlying t = some (.slice e)
  info : P.info? e = some i
  zero : ∃ g, zeroA P e = some (g, z)
  size : z.length = i.size
  pos : 0 < i.size

def slT (P : Program) (t : TypeId) : Option (TypeId × Nat × Nat × List At) :=
  match P.underlying t with
  | some (.slice e) => match P.info? e, zeroA P e with
    | some i, some (_, z) => match Nat.beq z.length i.size, Nat.blt 0 i.size with
      | true, true => some (e, i.size, i.bytes, z)
      | _, _ => none
    | _, _ => none
  | _ => none

theorem slT_ok {P : Program} {t e s y : Nat} {z : List At} (h : slT P t = some (e, s, y, z)) : ∃ i, SlT P t e i z ∧ i.size = s ∧ i.bytes = y := by
  unfold slT at h
  split at h
  · rename_i e' hu
    split at h
    · rename_i i g z' hi hz
      split at h
      · rename_i h1 h2
        cases h
        exact ⟨i, ⟨hu, hi, ⟨g, hz⟩, Nat.eq_of_beq_eq_true h1, blt_lt h2⟩, rfl, rfl⟩
      · cases h
    · cases h
  · cases h

theorem SlT.zeroV {P : Program} {t e : Nat} {i : TypeInfo} {z : List At} (h : SlT P t e i z) (η : Env) (w : World) : ∃ zv zs, (zeroValue e).run P w = .ok zv w ∧ concs η z = some zs ∧ zv.cells = ⟨zs⟩ ∧ zs.length = i.size ∧ i.zero = some zv := by
  obtain ⟨g, hz⟩ := h.zero
  obtain ⟨zv, h1, h2⟩ := zeroA_ok hz η w
  obtain ⟨zs, h3, h4⟩ := cells_conc (g := g) h1
  refine ⟨zv, zs, h2, h3, h4, by rw [concs_length _ _ h3]; exact h.size, ?_⟩
  unfold zeroA at hz
  rw [h.info] at hz
  cases hzz : i.zero with
  | none => simp [hzz] at hz
  | some zz =>
    simp only [hzz] at hz
    have := absC_conc η hz
    rw [h1] at this; cases this; rfl

def evBuildSlice (P : Program) (H : Tr AObj) (nx : Nat) (t : TypeId) (len : Nat) (ps : List (Nat × V)) : Option (V × Tr AObj × Nat) :=
  match slT P t with
  | some (e, s, _, z) => match Nat.ble (len * s) (2 ^ 24), fillA (fun i => some (i * s, s)) (reps z len) ps with
    | true, some l => match Nat.beq l.length (len * s) with
      | true => some (.one (.sl nx 0 len len), H.put (some (mk e l)) nx, nx + 1)
      | false => none
    | _, _ => none
  | none => none

theorem evBuildSlice_ok {P : Program} {H : Tr AObj} {nx : Nat} {t : TypeId} {len : Nat} {ps : List (Nat × V)} {v : V} {H' : Tr AObj} {nx' : Nat} (he : evBuildSlice P H nx t len ps = some (v, H', nx')) :
    Dm H.get H'.get nx nx' ∧ ∀ {η : Env} {h : Hp} {w : World} {cps : Array (Nat × Value)}, Pre η h w H.get nx nx' → PL η ps cps.toList → ∃ cv w' η', (Instr.buildSlice t len cps).run P w = .ok cv w' ∧ v.conc η' = some cv ∧ Stp η h w H.get H'.get nx nx' η' w' := by
  unfold evBuildSlice at he
  split at he
  · rename_i e s y z hsl
    obtain ⟨i, ht, rfl, rfl⟩ := slT_ok hsl
    split at he
    · rename_i l hle hfill
      split at he
      · rename_i hlen
        cases he
        refine ⟨dm_alloc _ _ _, fun p hp => ?_⟩
        rename_i η h w cps
        obtain ⟨zv, zs, h1, h2, h3, h4, _⟩ := ht.zeroV η w
        obtain ⟨ls, h5, h6⟩ := fillA_ok ps cps.toList _ l _ hfill (reps_conc h2 len) hp
        obtain ⟨η', h7, h8, h9⟩ := new_ok (E := e) p h5
        refine ⟨.slice (some ⟨w.heap.size, 0, none⟩) len len, _, η', ?_, by rw [slice_conc h8]; rfl, h9⟩
        have hle := Nat.le_of_ble_eq_true hle
        have hgt : ¬ (len * i.size > 2 ^ 24) := by omega
        have hzp : 0 < (⟨zs⟩ : Array Value).size := by show 0 < zs.length; rw [h4]; exact ht.pos
        have hrange : ∀ zz : Array Value, zz = ⟨zs⟩ → (Array.range (len * i.size)).map (fun i => zz[i % zz.size]!) = ⟨repsV zs len⟩ := by
          intro zz hzz; subst hzz
          have := zeros_eq ⟨zs⟩ len hzp
          rw [show (⟨zs⟩ : Array Value).size = i.size from h4] at this
          rw [show (⟨zs⟩ : Array Value).size = i.size from h4]; exact this
        simp only [Instr.buildSlice, Sem.run_bind, run_und ht.und, Result.andThen_ok, run_size ht.info, if_neg hgt]
        by_cases h0 : len * i.size = 0
        · have hl0 : len = 0 := by rcases Nat.mul_eq_zero.1 h0 with h | h; exact h; have := ht.pos; omega
          subst hl0
          have h6' : Instr.fill (fun k => some (k * i.size, i.size)) #[] cps.toList = some ⟨ls⟩ := h6
          have hr0 : ∀ f : Nat → Value, (Array.range 0).map f = #[] := fun f => by apply Array.ext'; simp
          simp [hr0, h6', newRow]
        · simp only [if_neg h0, Sem.run_bind, h1, Result.andThen_ok, Sem.run_pure, hrange zv.cells h3, h6]
          simp [newRow]
      · cases he
    · cases he
  · cases he

def evMakeSlice (P : Program) (H : Tr AObj) (nx : Nat) (t : TypeId) (len cap : At) : Option (V × Tr AObj × Nat) :=
  match slT P t, natOf len, natOf cap with
  | some (e, s, y, z), some l, some c => match Nat.ble l c, Nat.ble (c * y) (2 ^ 47), Nat.ble c (2 ^ 47) with
    | true, true, true => some (.one (.sl nx 0 l c), H.put (some (.cells e (c * s) (wr .nil 0 (reps z c)))) nx, nx + 1)
    | _, _, _ => none
  | _, _, _ => none

theorem evMakeSlice_ok {P : Program} {H : Tr AObj} {nx : Nat} {t : TypeId} {len cap : At} {v : V} {H' : Tr AObj} {nx' : Nat} (he : evMakeSlice P H nx t len cap = some (v, H', nx')) :
    Dm H.get H'.get nx nx' ∧ ∀ {η : Env} {h : Hp} {w : World} {cl cc : Value}, Pre η h w H.get nx nx' → len.conc η = some cl → cap.conc η = some cc → ∃ cv w' η', (Instr.makeSlice t cl cc).run P w = .ok cv w' ∧ v.conc η' = some cv ∧ Stp η h w H.get H'.get nx nx' η' w' := by
  unfold evMakeSlice at he
  split at he
  · rename_i e s y z l c hsl hl hc
    obtain ⟨i, ht, rfl, rfl⟩ := slT_ok hsl
    split at he
    · rename_i h1 h2 h3
      cases he
      refine ⟨dm_alloc _ _ _, fun p hcl hcc => ?_⟩
      rename_i η h w cl cc
      obtain ⟨kl, rfl⟩ := natOf_conc hl hcl
      obtain ⟨kc, rfl⟩ := natOf_conc hc hcc
      have h1 := Nat.le_of_ble_eq_true h1
      have h2 := Nat.le_of_ble_eq_true h2
      have h3 := Nat.le_of_ble_eq_true h3
      obtain ⟨zv, zs, z1, z2, z3, z4, _⟩ := ht.zeroV η w
      have hrc := reps_conc z2 c
      have hlen : (reps z c).length = c * i.size := by rw [← concs_length _ _ hrc, repsV_length, z4]
      obtain ⟨η', h7, h8, h9⟩ := new_ok (E := e) p hrc
      have hmk : mk e (reps z c) = .cells e (c * i.size) (wr .nil 0 (reps z c)) := by unfold mk; rw [hlen]
      rw [hmk] at h9
      refine ⟨.slice (some ⟨w.heap.size, 0, none⟩) l c, _, η', ?_, by rw [slice_conc h8]; rfl, h9⟩
      have wl : IntKind.i64.wrap (l : Int) = (l : Int) := IntWalk.i64_in _ (by omega)
      have wc : IntKind.i64.wrap (c : Int) = (c : Int) := IntWalk.i64_in _ (by omega)
      have hb : (i.bytes : Int) * (c : Int) ≤ 2 ^ 47 := by
        have : ((c * i.bytes : Nat) : Int) ≤ ((2 ^ 47 : Nat) : Int) := Int.ofNat_le.2 h2
        rw [Nat.mul_comm] at this
        simpa using this
      have t1 : ¬ ((c : Int) < 0) := by omega
      have t3 : ¬ ((l : Int) < 0) := by omega
      have t4 : ¬ ((l : Int) > (c : Int)) := by omega
      have hrange : (Array.range (c * i.size)).map (fun k => zv.cells[k % zv.cells.size]!) = ⟨repsV zs c⟩ := by
        rw [z3]
        have hzp : 0 < (⟨zs⟩ : Array Value).size := by show 0 < zs.length; rw [z4]; exact ht.pos
        have := zeros_eq ⟨zs⟩ c hzp
        rw [show (⟨zs⟩ : Array Value).size = i.size from z4] at this
        rw [show (⟨zs⟩ : Array Value).size = i.size from z4]; exact this
      by_cases h0 : c * i.size = 0
      · have hl0 : c = 0 := by rcases Nat.mul_eq_zero.1 h0 with h | h; exact h; have := ht.pos; omega
        subst hl0
        have hl0 : l = 0 := by omega
        subst hl0
        have w0 : IntKind.i64.wrap 0 = 0 := by decide
        have hr0 : ∀ f : Nat → Value, (Array.range 0).map f = #[] := fun f => by apply Array.ext'; simp
        simp [Instr.makeSlice, run_und ht.und, run_ti ht.info, asInt, asIntOf, askRoom, run_size ht.info, newRow, w0, hr0, repsV]
      · simp [Instr.makeSlice, run_und ht.und, run_ti ht.info, asInt, asIntOf, wl, wc, t4, askRoom, run_size ht.info, h0, z1, newRow, hrange]
        intro hbad
        exact absurd hbad (by omega)
    · cases he
  · cases he

end
end Go.Proofs.YtphpkalbbmlgoaaGreatDoor.Ev

namespace Go.Proofs.YtphpkalbbmlgoaaGreatDoor.Ev
open Go
noncomputable section

def bytesA : List UInt8 → List At
  | [] => []
  | b :: l => .int .u8 (Int.ofNat b.toNat) :: bytesA l

def src (P : Program) (H : Tr AObj) (tx : TypeId) (s : Nat) (x : At) : Option (Nat × List At) :=
  match P.underlying tx, x with
  | some (.slice _), .nils => some (0, [])
  | some (.slice _), .emp _ => some (0, [])
  | some (.slice _), .sl b o n _ => match n with
    | 0 => some (0, [])
    | n + 1 => match row H b o ((n + 1) * s) with | some l => some (n + 1, l) | none => none
  | some (.slice _), .slx b o n _ => match n with
    | 0 => some (0, [])
    | n + 1 => match row H b o ((n + 1) * s) with | some l => some (n + 1, l) | none => none
  | some .string, .str l => match Nat.beq s 1 with | true => some (l.length, bytesA l) | false => none
  | _, _ => none

def srcA (P : Program) (H : Tr AObj) (tx : TypeId) (s y : Nat) (z : List At) (x : At) : Option (Nat × List At) :=
  match P.underlying tx with
  | some (.int _) => match natOf x with
    | some k => match Nat.ble (k * y) (2 ^ 47), Nat.ble k (2 ^ 47) with
      | true, true => some (k, reps z k)
      | _, _ => none
    | none => none
  | _ => src P H tx s x

theorem bytesA_conc (η : Env) : ∀ l : List UInt8, concs η (bytesA l) = some (l.map fun b => Value.int .u8 b.toNat)
  | [] => rfl
  | b :: l => by simp [bytesA, concs, At.conc, bytesA_conc η l]

theorem src_ok {P : Program} {H : Tr AObj} {tx : TypeId} {s : Nat} {x : At} {n : Nat} {l : List At} (hs : src P H tx s x = some (n, l)) {η : Env} {cx : Value} {h : Hp} {w : World} (ext : ∀ b o, H.get b = some o → h b = some o) (rh : RH η h w) (hx : x.conc η = some cx) :
    ((∃ e, P.underlying tx = some (.slice e)) ∨ P.underlying tx = some .string) ∧ (∀ w', (Builtin.lenOf cx).run P w' = .ok n w') ∧ l.length = n * s ∧ ∃ vs, concs η l = some vs ∧
      ∀ k, k ≤ n → ∀ w', Quiet w w' → (Builtin.firstCells s k cx).run P w' = .ok ⟨vs.take (k * s)⟩ w' := by
  have key : ∀ (b o m : Nat) (c : Nat) (l : List At) (B0 : Nat × Nat), η.blk b = some B0 → row H b o (m * s) = some l → l.length = m * s ∧ ∃ vs, concs η l = some vs ∧
      ∀ k, k ≤ m → ∀ w', Quiet w w' → (Builtin.firstCells s k (.slice (some (adr B0 o)) m c)).run P w' = .ok ⟨vs.take (k * s)⟩ w' := by
    intro b o m c l B0 hB0 hr
    obtain ⟨B, vs, C, E, hrow, hvs, hlen, hcell⟩ := row_ok ext rh hr
    obtain rfl : B0 = B := Option.some.inj (hB0.symm.trans hrow.blk)
    refine ⟨hlen, vs, hvs, fun k hk w' hq => ?_⟩
    have hvl := concs_length _ _ hvs
    have hks : k * s ≤ m * s := Nat.mul_le_mul_right _ hk
    have hcq : ∀ a, w'.cell? a = w.cell? a := fun a => by simp [World.cell?, hq.1]
    have := run_firstCells_some (P := P) w' s k (adr B0 o) m c (vs.take (k * s)) (by simp; omega) (fun j v hj => by
      rw [hcq]; refine hcell j v ?_
      rw [List.getElem?_take] at hj
      split at hj
      · exact hj
      · cases hj)
    simpa using this
  unfold src at hs
  split at hs
  · rename_i e hu
    cases hs
    simp only [At.conc] at hx; cases hx
    exact ⟨.inl ⟨_, hu⟩, fun w' => by simp [Builtin.lenOf], by simp, [], rfl, fun k hk w' _ => by simp [Builtin.firstCells]⟩
  · rename_i e i hu
    cases hs
    obtain ⟨a, c, _, rfl⟩ := conc_emp hx
    refine ⟨.inl ⟨_, hu⟩, fun w' => by simp [Builtin.lenOf], by simp, [], rfl, fun k hk w' _ => ?_⟩
    obtain rfl : k = 0 := by omega
    simp [Builtin.firstCells, loadCells, loadCellsFrom]
  · rename_i e b o n' c hu
    obtain ⟨B, hB, rfl⟩ := conc_sl hx
    split at hs
    · cases hs
      refine ⟨.inl ⟨_, hu⟩, fun w' => by simp [Builtin.lenOf], by simp, [], rfl, fun k hk w' _ => ?_⟩
      obtain rfl : k = 0 := by omega
      simp [Builtin.firstCells, loadCells, loadCellsFrom]
    · rename_i m
      split at hs
      · rename_i l' hr
        cases hs
        obtain ⟨h1, h2⟩ := key b o (m + 1) c _ B hB hr
        exact ⟨.inl ⟨_, hu⟩, fun w' => by simp [Builtin.lenOf], h1, h2⟩
      · cases hs
  · rename_i e b o n' c hu
    obtain ⟨B, hB, rfl⟩ := conc_slx hx
    split at hs
    · cases hs
      refine ⟨.inl ⟨_, hu⟩, fun w' => by simp [Builtin.lenOf], by simp, [], rfl, fun k hk w' _ => ?_⟩
      obtain rfl : k = 0 := by omega
      simp [Builtin.firstCells, loadCells, loadCellsFrom]
    · rename_i m
      split at hs
      · rename_i l' hr
        cases hs
        obtain ⟨h1, h2⟩ := key b o (m + 1) (η.cap b - c) _ B hB hr
        exact ⟨.inl ⟨_, hu⟩, fun w' => by simp [Builtin.lenOf], h1, h2⟩
      · cases hs
  · rename_i ls hu
    split at hs
    · rename_i hs1
      cases hs
      obtain rfl : s = 1 := Nat.eq_of_beq_eq_true hs1
      simp only [At.conc] at hx; cases hx
      have hbl : (bytesA ls).length = ls.length := by rw [← concs_length _ _ (bytesA_conc η ls)]; simp
      refine ⟨.inr hu, fun w' => by simp [Builtin.lenOf, ByteArray.size], by omega, _, bytesA_conc η ls, fun k hk w' _ => ?_⟩
      simp only [Builtin.firstCells, Sem.run_pure]
      congr 1
      apply Array.ext'
      simp [ByteArray.extract, ByteArray.copySlice, List.map_take]
    · cases hs
  · cases hs

theorem srcA_ok {P : Program} {H : Tr AObj} {t tx e : TypeId} {i : TypeInfo} {z : List At} (ht : SlT P t e i z) {x : At} {n : Nat} {l : List At} (hs : srcA P H tx i.size i.bytes z x = some (n, l)) {η : Env} {cx : Value} {h : Hp} {w : World} (ext : ∀ b o, H.get b = some o → h b = some o) (rh : RH η h w) (hx : x.conc η = some cx) :
    l.length = n * i.size ∧ ∃ zv vs, i.zero = some zv ∧ concs η l = some vs ∧
      ((((∃ e, P.underlying tx = some (.slice e)) ∨ P.underlying tx = some .string) ∧ (∀ w', (Builtin.lenOf cx).run P w' = .ok n w') ∧ ∀ w', Quiet w w' → (Builtin.firstCells i.size n cx).run P w' = .ok ⟨vs⟩ w') ∨
  (∃ k kd, P.underlying tx = some (.int k) ∧ cx = .int kd (n : Int) ∧ zv.cells.size = i.size ∧ 0 < i.size ∧ vs = repsV zv.cells.toList n ∧ n * i.bytes ≤ 2 ^ 47 ∧ n ≤ 2 ^ 47)) := by
  obtain ⟨zv, zs, z1, z2, z3, z4, z5⟩ := ht.zeroV η w
  unfold srcA at hs
  split at hs
  · rename_i k hk
    split at hs
    · rename_i m hm
      split at hs
      · rename_i h1 h2
        cases hs
        obtain ⟨kd, rfl⟩ := natOf_conc hm hx
        have hrc := reps_conc z2 n
        refine ⟨by rw [← concs_length _ _ hrc, repsV_length, z4], zv, repsV zs n, z5, hrc, .inr ⟨k, kd, hk, rfl, by rw [z3]; exact z4, ht.pos, by rw [z3], Nat.le_of_ble_eq_true h1, Nat.le_of_ble_eq_true h2⟩⟩
      · cases hs
    · cases hs
  · obtain ⟨htx, hlen, hll, vs, hvs, hf⟩ := src_ok hs ext rh hx
    refine ⟨hll, zv, vs, z5, hvs, .inl ⟨htx, hlen, fun w' hq => ?_⟩⟩
    have := hf n (Nat.le_refl _) w' hq
    rw [List.take_of_length_le (Nat.le_of_eq ((concs_length _ _ hvs).trans hll))] at this
    exact this

theorem run_app_room {P : Program} {w w' : World} {t tx e ty : TypeId} {i : TypeInfo} (ht : P.underlying t = some (.slice e)) (hi : P.info? e = some i) (hx : (∃ e, P.underlying tx = some (.slice e)) ∨ P.underlying tx = some .string)
    {base : Option Addr} {n m c : Nat} {cx : Value} {vs : Array Value} (hlen : (Builtin.lenOf cx).run P w = .ok m w) (hf : (Builtin.firstCells i.size m cx).run P w = .ok vs w) (hroom : n + m ≤ c)
    (hst : match base with | some a => (storeCells (a.add (n * i.size)) vs.toList).run P w = .ok () w' | none => w' = w) :
    (Builtin.append_ #[t, tx] ty #[.slice base n c, cx]).run P w = .ok (.slice base (n + m) c) w' := by
  cases base with
  | none =>
    subst hst
    rcases hx with ⟨e', hx⟩ | hx <;> simp [Builtin.append_, run_und ht, run_size hi, run_und hx, hlen, hroom, hf]
  | some a =>
    rcases hx with ⟨e', hx⟩ | hx <;> simp [Builtin.append_, run_und ht, run_size hi, run_und hx, hlen, hroom, hf, hst]

theorem run_app_grow {P : Program} {w : World} {t tx e ty : TypeId} {i : TypeInfo} {z : Value} (ht : P.underlying t = some (.slice e)) (hi : P.info? e = some i) (hz : i.zero = some z) (hx : (∃ e, P.underlying tx = some (.slice e)) ∨ P.underlying tx = some .string)
    {base : Option Addr} {n m c : Nat} {cx : Value} {us vs : Array Value} (hlen : ∀ w', (Builtin.lenOf cx).run P w' = .ok m w') (hf : (Builtin.firstCells i.size m cx).run P w.drew = .ok vs w.drew) (hu : (Builtin.firstCells i.size n (.slice base n c)).run P w.drew = .ok us w.drew)
    (hno : c < n + m) (h63 : ((n + m : Nat) : Int) ≤ 9223372036854775807) (hfit : (n + m) * i.bytes ≤ 140737488355328) :
    (Builtin.append_ #[t, tx] ty #[.slice base n c, cx]).run P w =
      .ok (.slice (some ⟨w.heap.size, 0, none⟩) (n + m) (grownCap w (n + m) c e)) (w.drew.alloc (.cells (us ++ vs ++ Builtin.zeroCells z.cells (grownCap w (n + m) c e - (n + m))) e)) := by
  have hn : ¬ (n + m ≤ c) := by omega
  have h63' : ¬ (9223372036854775807 < ((n : Int) + (m : Int))) := by omega
  have h48' : ¬ (281474976710656 < Builtin.nextslicecap (n + m) c * i.bytes) := by have := growslice_fits hno hfit; omega
  have hzv : ∀ w', (zeroValue e).run P w' = .ok z w' := fun w' => by simp [zeroValue, run_ti hi, hz]
  have hl := hlen w
  rcases hx with ⟨e', hx⟩ | hx <;> simp [Builtin.append_, run_und ht, run_size hi, run_ti hi, run_und hx, hl, hn, h63', h48', Question.forced, hf, hu, hzv, newRow, grownCap]

def AppSrc (P : Program) (tx : TypeId) (i : TypeInfo) (zv : Value) (w : World) (n : Nat) (cx : Value) (vs : List Value) : Prop :=
  (((∃ e, P.underlying tx = some (.slice e)) ∨ P.underlying tx = some .string) ∧ (∀ w', (Builtin.lenOf cx).run P w' = .ok n w') ∧ ∀ w', Quiet w w' → (Builtin.firstCells i.size n cx).run P w' = .ok ⟨vs⟩ w') ∨
  (∃ k kd, P.underlying tx = some (.int k) ∧ cx = .int kd (n : Int) ∧ zv.cells.size = i.size ∧ 0 < i.size ∧ vs = repsV zv.cells.toList n ∧ n * i.bytes ≤ 2 ^ 47 ∧ n ≤ 2 ^ 47)

theorem app_room {P : Program} {w w' : World} {t tx e ty : TypeId} {i : TypeInfo} {z : Value} (ht : P.underlying t = some (.slice e)) (hi : P.info? e = some i) (hz : i.zero = some z)
    {base : Option Addr} {n m c : Nat} {cx : Value} {vs : List Value} (hs : AppSrc P tx i z w m cx vs) (hroom : n + m ≤ c)
    (hst : match base with | some a => (storeCells (a.add (n * i.size)) vs).run P w = .ok () w' | none => w' = w) :
    (Builtin.append_ #[t, tx] ty #[.slice base n c, cx]).run P w = .ok (.slice base (n + m) c) w' := by
  rcases hs with ⟨hx, hl, hf⟩ | ⟨k, kd, hx, rfl, hzs, hpos, rfl, hb, hm⟩
  · exact run_app_room ht hi hx (hl w) (hf w ⟨rfl, rfl, rfl, rfl⟩) hroom hst
  · have hw : IntKind.i64.wrap (m : Int) = (m : Int) := IntWalk.i64_in _ (by omega)
    have h1 : ¬ ((m : Int) < 0) := by omega
    have h2 : ¬ ((m : Int) * (i.bytes : Int) > 2 ^ 48) := by
      have : ((m * i.bytes : Nat) : Int) ≤ ((2 ^ 47 : Nat) : Int) := Int.ofNat_le.2 hb
      have e2 : ((m * i.bytes : Nat) : Int) = (m : Int) * (i.bytes : Int) := by simp
      rw [← e2]; omega
    have hzv : (zeroValue e).run P w = .ok z w := by simp [zeroValue, run_ti hi, hz]
    have happ : (if m * i.size = 0 then (pure #[] : Sem (Array Value)) else do pure (Builtin.zeroCells (← zeroValue e).cells m)).run P w = .ok ⟨repsV z.cells.toList m⟩ w := by
      by_cases h0 : m * i.size = 0
      · have : m = 0 := by rcases Nat.mul_eq_zero.1 h0 with h | h; exact h; omega
        subst this; simp [repsV]
      · have := zeros_eq z.cells m (by omega)
        simp only [if_neg h0, Sem.run_bind, hzv, Result.andThen_ok, Sem.run_pure, Builtin.zeroCells, this]
    cases base with
    | none =>
      subst hst
      simp only [Builtin.append_, Sem.run_bind, run_und ht, Result.andThen_ok, run_size hi, run_und hx, List.getElem?_toArray, List.getElem?_cons_zero, List.getElem?_cons_succ, Sem.run_pure, asInt, asIntOf, hw, if_neg h1, run_ti hi, if_neg h2, if_true, Int.toNat_natCast, hroom, Bool.not_true, Bool.false_eq_true, if_false, happ]
    | some a =>
      simp only [Builtin.append_, Sem.run_bind, run_und ht, Result.andThen_ok, run_size hi, run_und hx, List.getElem?_toArray, List.getElem?_cons_zero, List.getElem?_cons_succ, Sem.run_pure, asInt, asIntOf, hw, if_neg h1, run_ti hi, if_neg h2, if_true, Int.toNat_natCast, hroom, Bool.not_true, Bool.false_eq_true, if_false, happ, hst]

theorem app_more {P : Program} {w : World} {t tx e ty : TypeId} {i : TypeInfo} {z : Value} (ht : P.underlying t = some (.slice e)) (hi : P.info? e = some i) (hz : i.zero = some z)
    {base : Option Addr} {n m c : Nat} {cx : Value} {us : Array Value} {vs : List Value} (hs : AppSrc P tx i z w m cx vs) (hu : (Builtin.firstCells i.size n (.slice base n c)).run P w.drew = .ok us w.drew)
    (hno : c < n + m) (h63 : ((n + m : Nat) : Int) ≤ 9223372036854775807) (hfit : (n + m) * i.bytes ≤ 140737488355328) :
    (Builtin.append_ #[t, tx] ty #[.slice base n c, cx]).run P w =
      .ok (.slice (some ⟨w.heap.size, 0, none⟩) (n + m) (grownCap w (n + m) c e)) (w.drew.alloc (.cells (us ++ ⟨vs⟩ ++ Builtin.zeroCells z.cells (grownCap w (n + m) c e - (n + m))) e)) := by
  rcases hs with ⟨hx, hl, hf⟩ | ⟨k, kd, hx, rfl, hzs, hpos, rfl, hb, hm⟩
  · exact run_app_grow ht hi hz hx hl (hf w.drew ⟨rfl, rfl, rfl, rfl⟩) hu hno h63 hfit
  · have hw : IntKind.i64.wrap (m : Int) = (m : Int) := IntWalk.i64_in _ (by omega)
    have h1 : ¬ ((m : Int) < 0) := by omega
    have h2 : ¬ ((m : Int) * (i.bytes : Int) > 2 ^ 48) := by
      have : ((m * i.bytes : Nat) : Int) ≤ ((2 ^ 47 : Nat) : Int) := Int.ofNat_le.2 hb
      have e2 : ((m * i.bytes : Nat) : Int) = (m : Int) * (i.bytes : Int) := by simp
      rw [← e2]; omega
    have hzv : ∀ w', (zeroValue e).run P w' = .ok z w' := fun w' => by simp [zeroValue, run_ti hi, hz]
    have hn : ¬ (n + m ≤ c) := by omega
    have h63' : ¬ (9223372036854775807 < ((n : Int) + (m : Int))) := by omega
    have h48' : ¬ (281474976710656 < Builtin.nextslicecap (n + m) c * i.bytes) := by have := growslice_fits hno hfit; omega
    have h2' : ¬ (281474976710656 < (m : Int) * (i.bytes : Int)) := by omega
    by_cases h0 : m * i.size = 0
    · have hm0 : m = 0 := by rcases Nat.mul_eq_zero.1 h0 with h | h; exact h; omega
      subst hm0
      have w0 : IntKind.i64.wrap 0 = 0 := by decide
      have h63'' : ¬ (9223372036854775807 < (n : Int)) := by omega
      simp [Builtin.append_, run_und ht, run_size hi, run_ti hi, run_und hx, asInt, asIntOf, h63'', Question.forced, hu, hzv, newRow, grownCap, repsV, w0]
      simp only [Nat.add_zero] at h48' hn
      simp [h48', hn]
    · have hz2 : Builtin.zeroCells z.cells m = ⟨repsV z.cells.toList m⟩ := zeros_eq z.cells m (by omega)
      simp [Builtin.append_, run_und ht, run_size hi, run_ti hi, run_und hx, asInt, asIntOf, hw, hn, h63', h48', h2', Question.forced, hu, hzv, newRow, grownCap, hz2]
      rw [if_neg h1, if_neg h0]

theorem grownCap_ge (w : World) (need old : Nat) (e : TypeId) : need ≤ grownCap w need old e := by
  show need ≤ need + _
  exact Nat.le_add_right _ _

theorem grow_ok {η : Env} {h : Hp} {w : World} {H : Tr AObj} {nx : Nat} (p : Pre η h w H.get nx (nx + 1)) {e s n : Nat} {T : Tr At} {C zs : Array Value} (K : Nat) (hK : n ≤ K) (hKm : K ≤ maxLen) (hs : 0 < s) (hzs : zs.size = s) (hsize : C.size = n * s)
    (hC : ∀ η', η.le η' → Cells η' 0 (n * s) T C) :
    ∃ η', η'.blk nx = some (w.heap.size, 0) ∧ η'.cap nx = K ∧
      Stp η h w H.get (H.put (some (.lcells e (n * s) s T)) nx).get nx (nx + 1) η' (w.drew.alloc (.cells (C ++ Builtin.zeroCells zs (K - n)) e)) := by
  obtain ⟨hnb, _, _⟩ := p.fresh nx (Nat.le_refl _) (by omega)
  have hle := Env.le_set hnb (w.heap.size, 0) K
  refine ⟨η.set nx (w.heap.size, 0) K, Env.set_same _ _ _ _, Env.cap_same _ _ _ _, ?_⟩
  refine (Stp.alloc (w' := w.drew.alloc (.cells (C ++ Builtin.zeroCells zs (K - n)) e)) p (.cells (C ++ Builtin.zeroCells zs (K - n)) e) (.lcells e (n * s) s T) K ⟨rfl, rfl, rfl, rfl⟩ ?_).2
  refine ⟨_, rfl, ?_, ?_, ⟨hs, by rw [Env.cap_same]; exact hKm⟩, fun i hi => ?_⟩
  · rw [Env.cap_same, Array.size_append, size_zeroCells, hsize, hzs, ← Nat.add_mul]; simp; congr 1; omega
  · rw [Env.cap_same]; exact Nat.mul_le_mul_right _ hK
  · obtain ⟨a, v, h1, h2, h3⟩ := hC _ hle i hi
    refine ⟨a, v, h1, h2, ?_⟩
    rw [Array.getElem?_append, if_pos (by simp; omega)]
    simpa using h3

end
end Go.Proofs.YtphpkalbbmlgoaaGreatDoor.Ev

namespace Go.Proofs.YtphpkalbbmlgoaaGreatDoor.Ev
open Go
noncomputable section

def subT (T : Tr At) (m o k : Nat) : Option (Tr At) :=
  match Nat.ble (o + k) m with
  | true => match o with
    | 0 => some T
    | o' + 1 => match rd T (o' + 1) k with | some l => some (wr .nil 0 l) | none => none
  | false => none

def sub (ob : AObj) (o k : Nat) : Option (Tr At) :=
  match ob with
  | .cells _ m T => subT T m o k
  | .lcells _ m _ T => subT T m o k
  | _ => none

theorem sub_ok {η : Env} {h : Hp} {w : World} {H : Tr AObj} (ext : ∀ b o, H.get b = some o → h b = some o) (rh : RH η h w) {b o k : Nat} {ob : AObj} {T0 : Tr At} (hb : H.get b = some ob) (hs : sub ob o k = some T0) :
    ∃ B C E, Row η w b B C E ∧ Cells η (B.2 + o) k T0 C ∧ B.2 + o + k ≤ C.size := by
  obtain ⟨B, co, hB, hw, hrel⟩ := rh.live b ob (ext b ob hb)
  have key : ∀ (C : Array Value) (m : Nat) (T : Tr At), Cells η B.2 m T C → B.2 + m ≤ C.size → subT T m o k = some T0 → Cells η (B.2 + o) k T0 C ∧ B.2 + o + k ≤ C.size := by
    intro C m T hC hm hif
    unfold subT at hif
    split at hif
    · rename_i hle
      have hle := Nat.le_of_ble_eq_true hle
      split at hif
      · cases hif
        refine ⟨fun i hi => ?_, by omega⟩
        obtain ⟨a, v, h1, h2, h3⟩ := hC i (by omega)
        exact ⟨a, v, h1, h2, by simpa using h3⟩
      · split at hif
        · rename_i l hl
          cases hif
          obtain ⟨vs, h4, h5, h6⟩ := rd_cells hC k _ l hle hl
          refine ⟨fun i hi => ?_, by omega⟩
          rw [get_wr, if_pos (by omega)]
          obtain ⟨v, h7, h8⟩ := concs_get l vs h4 i l[i] (by simp)
          exact ⟨l[i], v, by simp, h8, h6 i v h7⟩
        · cases hif
    · cases hif
  unfold sub at hs
  cases ob with
  | cells E m T =>
    obtain ⟨C, rfl, hβ, hsz, hC⟩ := hrel
    obtain ⟨h1, h2⟩ := key C m T (by rw [hβ]; exact hC) (by omega) hs
    exact ⟨B, C, E, ⟨hB, hw⟩, h1, h2⟩
  | lcells E m s T =>
    obtain ⟨C, rfl, g1, g2, g3, hC⟩ := hrel
    obtain ⟨h1, h2⟩ := key C m T hC (by omega) hs
    exact ⟨B, C, E, ⟨hB, hw⟩, h1, h2⟩
  | _ => cases hs

theorem part_first {P : Program} {η : Env} {w : World} {b : Nat} {B : Nat × Nat} {C : Array Value} {E o n c s : Nat} (r : Row η w b B C E) (hle : B.2 + o + n * s ≤ C.size) :
    ∀ w', Quiet w w' → (Builtin.firstCells s n (.slice (some (adr B o)) n c)).run P w' = .ok ⟨(C.toList.drop (B.2 + o)).take (n * s)⟩ w' := by
  intro w' hq
  have hcq : ∀ a, w'.cell? a = w.cell? a := fun a => by simp [World.cell?, hq.1]
  have := run_firstCells_some (P := P) w' s n (adr B o) n c ((C.toList.drop (B.2 + o)).take (n * s)) (by simp; omega) (fun j v hj => by
    rw [hcq, adr_add, r.cell]
    rw [List.getElem?_take] at hj
    split at hj
    · rw [List.getElem?_drop] at hj
      simp only [Array.getElem?_toList] at hj
      rw [← hj]; congr 1; omega
    · cases hj)
  simpa using this

theorem Cells.part {η : Env} {β k : Nat} {T : Tr At} {C : Array Value} (hC : Cells η β k T C) (X : List Value) : Cells η 0 k T ⟨(C.toList.drop β).take k ++ X⟩ := fun i hi => by
  obtain ⟨a, v, h1, h2, h3⟩ := hC i hi
  refine ⟨a, v, h1, h2, ?_⟩
  have hlt : β + i < C.size := (Array.getElem?_eq_some_iff.1 h3).1
  have : ((C.toList.drop β).take k ++ X)[i]? = some v := by
    rw [List.getElem?_append, if_pos (by simp; omega), List.getElem?_take, if_pos hi, List.getElem?_drop]
    simpa using h3
  simpa using this

def lim (n y : Nat) : Bool := Nat.ble (n * y) (2 ^ 47) && Nat.ble n (2 ^ 47)

def evAppend (P : Program) (H : Tr AObj) (nx : Nat) (t tx : TypeId) (s x : At) : Option (V × Tr AObj × Nat) :=
  match slT P t with
  | some (e, sz, y, z) => match srcA P H tx sz y z x with
    | some (m, l) => match s with
      | .nils => match m with
        | 0 => some (.one .nils, H, nx)
        | m + 1 => match lim (m + 1) y with
          | true => some (.one (.slx nx 0 (m + 1) 0), H.put (some (.lcells e ((m + 1) * sz) sz (wr .nil 0 l))) nx, nx + 1)
          | false => none
      | .emp i => match m with
        | 0 => some (.one (.emp i), H, nx)
        | _ => none
      | .sl b o n c => match m with
        | 0 => match Nat.ble n c with | true => some (.one (.sl b o n c), H, nx) | false => none
        | m + 1 => match H.get b with
          | some ob => match Nat.ble (n + (m + 1)) c with
            | true => match put ob (o + n * sz) l with
              | some ob' => some (.one (.sl b o (n + (m + 1)) c), H.put (some ob') b, nx)
              | none => none
            | false => match sub ob o (n * sz), lim (n + (m + 1)) y with
              | some T, true => some (.one (.slx nx 0 (n + (m + 1)) 0), H.put (some (.lcells e ((n + (m + 1)) * sz) sz (wr T (n * sz) l))) nx, nx + 1)
              | _, _ => none
          | none => none
      | .slx b o n e' => match m with
        | 0 => match known H b o e' sz with
          | some k => match Nat.ble n k with | true => some (.one (.slx b o n e'), H, nx) | false => none
          | none => none
        | m + 1 => match H.get b with
          | some (.lcells E mm s' T0) => match Nat.beq E e, Nat.beq s' sz, Nat.beq o (e' * sz), sub (.lcells E mm s' T0) o (n * sz), lim (n + (m + 1)) y with
            | true, true, true, some T, true => some (.one (.slx nx 0 (n + (m + 1)) 0), (H.put none b).put (some (.lcells e ((n + (m + 1)) * sz) sz (wr T (n * sz) l))) nx, nx + 1)
            | _, _, _, _, _ => none
          | _ => none
      | _ => none
    | none => none
  | none => none

theorem lim_ok {n y : Nat} (h : lim n y = true) : n * y ≤ 140737488355328 ∧ ((n : Nat) : Int) ≤ 9223372036854775807 := by
  unfold lim at h
  rw [Bool.and_eq_true] at h
  have h1 := Nat.le_of_ble_eq_true h.1
  have h2 := Nat.le_of_ble_eq_true h.2
  exact ⟨by omega, by omega⟩

theorem slx_conc {η : Env} {b o n e : Nat} {B : Nat × Nat} (hB : η.blk b = some B) : (V.one (.slx b o n e)).conc η = some (.slice (some (adr B o)) n (η.cap b - e)) := by
  rw [one_conc]; simp [At.conc, hB]

theorem app_grow {P : Program} {H : Tr AObj} {nx : Nat} {t tx e : TypeId} {i : TypeInfo} {z : List At} (ht : SlT P t e i z) {η : Env} {h : Hp} {w : World} (p : Pre η h w H.get nx (nx + 1)) {cx : Value} {n m c : Nat} {base : Option Addr} {l : List At} {us vs : List Value} {zv0 : Value} (hz0 : i.zero = some zv0)
    (hs : AppSrc P tx i zv0 w m cx vs) (hll : l.length = m * i.size) (hvs : concs η l = some vs)
    (hu : (Builtin.firstCells i.size n (.slice base n c)).run P w.drew = .ok ⟨us⟩ w.drew) (hul : us.length = n * i.size) (hno : c < n + m) (hlim : lim (n + m) i.bytes = true) {T : Tr At} (hT : ∀ X, Cells η 0 (n * i.size) T ⟨us ++ X⟩) (ty : TypeId) :
    ∃ cv w' η', (Builtin.append_ #[t, tx] ty #[.slice base n c, cx]).run P w = .ok cv w' ∧ (V.one (.slx nx 0 (n + m) 0)).conc η' = some cv ∧
      Stp η h w H.get (H.put (some (.lcells e ((n + m) * i.size) i.size (wr T (n * i.size) l))) nx).get nx (nx + 1) η' w' := by
  obtain ⟨hl1, hl2⟩ := lim_ok hlim
  obtain ⟨zv, zs, z1, z2, z3, z4, z5⟩ := ht.zeroV η w
  rw [hz0] at z5; cases z5
  have hrun := app_more (ty := ty) ht.und ht.info hz0 hs hu hno hl2 hl1
  have hvl := concs_length _ _ hvs
  have hsz : (us ++ vs).length = (n + m) * i.size := by rw [List.length_append, hul, hvl, hll, Nat.add_mul]
  obtain ⟨η', h1, h2, h3⟩ := grow_ok (e := e) (C := ⟨us ++ vs⟩) (zs := ⟨zs⟩) (T := wr T (n * i.size) l) p (grownCap w (n + m) c e) (grownCap_ge _ _ _ _) (grownCap_le_maxLen _ _ _ _ (by unfold maxLen; omega)) ht.pos z4 hsz (fun η' hle => by
    refine Cells.wr (C := ⟨us ++ vs⟩) (n := n * i.size) ((hT vs).mono hle) (concs_mono hle _ _ hvs) (.inr ⟨by rw [hll, ← Nat.add_mul]; exact Nat.le_refl _, Nat.le_refl _⟩) (fun j v hj => ?_) (fun _ _ => rfl)
    have : (us ++ vs)[n * i.size + j]? = some v := by rw [List.getElem?_append, if_neg (by omega), hul]; simpa using hj
    simpa using this)
  refine ⟨_, _, η', hrun, by rw [slx_conc h1, h2]; rfl, ?_⟩
  have e1 : (⟨us⟩ : Array Value) ++ (⟨vs⟩ : Array Value) ++ Builtin.zeroCells zv0.cells (grownCap w (n + m) c e - (n + m)) = (⟨us ++ vs⟩ : Array Value) ++ Builtin.zeroCells ⟨zs⟩ (grownCap w (n + m) c e - (n + m)) := by
    rw [z3]; apply Array.ext'; simp
  rw [e1]; exact h3

theorem vs0 {η : Env} {l : List At} {vs : List Value} {s : Nat} (hl : l.length = 0 * s) (hv : concs η l = some vs) : vs = [] := by
  have := concs_length _ _ hv
  rw [hl] at this
  simpa using this

theorem quiet_drew (w : World) : Quiet w w.drew := ⟨rfl, rfl, rfl, rfl⟩

theorem evAppend_ok {P : Program} {H : Tr AObj} {nx : Nat} {t tx : TypeId} {s x : At} {v : V} {H' : Tr AObj} {nx' : Nat} (he : evAppend P H nx t tx s x = some (v, H', nx')) :
    Dm H.get H'.get nx nx' ∧ ∀ {η : Env} {h : Hp} {w : World} {cs cx : Value} (ty : TypeId), Pre η h w H.get nx nx' → s.conc η = some cs → x.conc η = some cx →
      ∃ cv w' η', (Builtin.append_ #[t, tx] ty #[cs, cx]).run P w = .ok cv w' ∧ v.conc η' = some cv ∧ Stp η h w H.get H'.get nx nx' η' w' := by
  unfold evAppend at he
  split at he
  · rename_i e sz y z hsl
    obtain ⟨i, ht, rfl, rfl⟩ := slT_ok hsl
    split at he
    · rename_i m l hsrc
      split at he
      · -- nil
        split at he
        · cases he
          refine ⟨Dm.refl _ _, fun ty p hs hx => ?_⟩
          obtain ⟨hll, zv, vs, hzv, hvs, hs0⟩ := srcA_ok ht hsrc p.ext p.rh hx
          simp only [At.conc] at hs; cases hs
          exact ⟨_, _, _, app_room (w' := _) ht.und ht.info hzv hs0 (by omega) rfl, by rfl, Stp.refl p.ext p.rh⟩
        · rename_i m
          split at he
          · rename_i hlim
            cases he
            refine ⟨dm_alloc _ _ _, fun ty p hs hx => ?_⟩
            rename_i η h w cs cx
            obtain ⟨hll, zv, vs, hzv, hvs, hs0⟩ := srcA_ok ht hsrc p.ext p.rh hx
            simp only [At.conc] at hs; cases hs
            have hvl := concs_length _ _ hvs
            have := app_grow (T := .nil) (us := []) (n := 0) (c := 0) (base := none) ht p hzv hs0 hll hvs (by simp [Builtin.firstCells]) (by simp) (by omega) (by simpa using hlim) (fun X i hi => by simp at hi) ty
            simpa using this
          · cases he
      · -- an empty slice
        split at he
        · cases he
          refine ⟨Dm.refl _ _, fun ty p hs hx => ?_⟩
          rename_i η h w cs cx
          obtain ⟨hll, zv, vs, hzv, hvs, hs0⟩ := srcA_ok ht hsrc p.ext p.rh hx
          obtain ⟨a, c, hem, rfl⟩ := conc_emp hs
          exact ⟨_, w, η, app_room (w' := w) ht.und ht.info hzv hs0 (by omega) (by rw [vs0 hll hvs]; simp [storeCells]), one_conc.2 hs, Stp.refl p.ext p.rh⟩
        · cases he
      · -- a slice of known capacity
        rename_i b o n c
        split at he
        · split at he
          · rename_i hnc
            cases he
            refine ⟨Dm.refl _ _, fun ty p hs hx => ?_⟩
            rename_i η h w cs cx
            obtain ⟨hll, zv, vs, hzv, hvs, hs0⟩ := srcA_ok ht hsrc p.ext p.rh hx
            obtain ⟨B, hB, rfl⟩ := conc_sl hs
            exact ⟨_, w, η, app_room (w' := w) ht.und ht.info hzv hs0 (by have := Nat.le_of_ble_eq_true hnc; omega) (by rw [vs0 hll hvs]; simp [storeCells]), one_conc.2 hs, Stp.refl p.ext p.rh⟩
          · cases he
        · rename_i m
          split at he
          · rename_i ob hb
            split at he
            · rename_i hroom
              have hroom := Nat.le_of_ble_eq_true hroom
              split at he
              · rename_i ob' hput
                cases he
                refine ⟨dm_set hb _ _, fun ty p hs hx => ?_⟩
                rename_i η h w cs cx
                obtain ⟨hll, zv, vs, hzv, hvs, hs0⟩ := srcA_ok ht hsrc p.ext p.rh hx
                obtain ⟨B, hB, rfl⟩ := conc_sl hs
                have hvl := concs_length _ _ hvs
                obtain ⟨B', w', hB', hrun, hst⟩ := put_ok (P := P) hb hput p hvs
                obtain rfl : B = B' := Option.some.inj (hB.symm.trans hB')
                refine ⟨_, w', η, app_room (w' := w') ht.und ht.info hzv hs0 hroom ?_, slice_conc hB, hst⟩
                simp only [adr_add]; exact hrun
              · cases he
            · rename_i hroom
              have hroom : c < n + (m + 1) := by
                rcases Nat.lt_or_ge c (n + (m + 1)) with h | h
                · exact h
                · rw [Nat.ble_eq_true_of_le h] at hroom; cases hroom
              split at he
              · rename_i T hsub hlim
                cases he
                refine ⟨dm_alloc _ _ _, fun ty p hs hx => ?_⟩
                rename_i η h w cs cx
                obtain ⟨hll, zv, vs, hzv, hvs, hs0⟩ := srcA_ok ht hsrc p.ext p.rh hx
                obtain ⟨B, hB, rfl⟩ := conc_sl hs
                have hvl := concs_length _ _ hvs
                obtain ⟨B', C, E, hrow, hC, hle⟩ := sub_ok p.ext p.rh hb hsub
                obtain rfl : B = B' := Option.some.inj (hB.symm.trans hrow.blk)
                exact app_grow ht p hzv hs0 hll hvs (part_first hrow hle w.drew (quiet_drew w)) (by simp; omega) hroom hlim (fun X => hC.part X) ty
              · cases he
          · cases he
      · -- a slice of unknown capacity
        rename_i b o n e'
        split at he
        · split at he
          · rename_i k hk
            split at he
            · rename_i hnk
              cases he
              refine ⟨Dm.refl _ _, fun ty p hs hx => ?_⟩
              rename_i η h w cs cx
              obtain ⟨hll, zv, vs, hzv, hvs, hs0⟩ := srcA_ok ht hsrc p.ext p.rh hx
              obtain ⟨B, hB, rfl⟩ := conc_slx hs
              have hk1 := (known_ok p.ext p.rh hk).1
              have hk2 := Nat.le_of_ble_eq_true hnk
              exact ⟨_, w, η, app_room (w' := w) ht.und ht.info hzv hs0 (by omega) (by rw [vs0 hll hvs]; simp [storeCells]), one_conc.2 hs, Stp.refl p.ext p.rh⟩
            · cases he
          · cases he
        · rename_i m
          split at he
          · rename_i E mm s' T0 hb
            split at he
            · rename_i T hE hs' ho hsub hlim
              cases he
              have hE : E = e := Nat.eq_of_beq_eq_true hE
              have hs' : s' = i.size := Nat.eq_of_beq_eq_true hs'
              have ho : o = e' * i.size := Nat.eq_of_beq_eq_true ho
              subst hE; subst hs'
              refine ⟨⟨by omega, fun k hk => ?_⟩, fun ty p hs hx => ?_⟩
              · by_cases e1 : k = nx
                · exact .inr (by omega)
                · rw [Tr.get_put_other _ _ e1] at hk
                  by_cases e2 : k = b
                  · subst e2; rw [Tr.get_put_same] at hk; exact absurd rfl hk
                  · rw [Tr.get_put_other _ _ e2] at hk; exact .inl hk
              rename_i η h w cs cx
              obtain ⟨hll, zv, vs, hzv, hvs, hs0⟩ := srcA_ok ht hsrc p.ext p.rh hx
              obtain ⟨B, hB, rfl⟩ := conc_slx hs
              have hvl := concs_length _ _ hvs
              obtain ⟨B', C, E', hrow, hC, hle⟩ := sub_ok p.ext p.rh hb hsub
              obtain rfl : B = B' := Option.some.inj (hB.symm.trans hrow.blk)
              obtain ⟨B2, co, hB2, hw, C2, rfl, g1, g2, g3, g4⟩ := p.rh.live b _ (p.ext b _ hb)
              obtain rfl : B = B2 := Option.some.inj (hB.symm.trans hB2)
              have hCC : C2 = C ∧ E = E' := by
                have := hw.symm.trans hrow.heap
                injection this with this
                injection this with h1 h2
                exact ⟨h1, h2⟩
              obtain ⟨rfl, rfl⟩ := hCC
              by_cases hroom : n + (m + 1) ≤ η.cap b - e'
              · -- in place
                have hcap : e' + (n + (m + 1)) ≤ η.cap b := by omega
                have hcs : (e' + (n + (m + 1))) * i.size ≤ η.cap b * i.size := Nat.mul_le_mul_right _ hcap
                rw [Nat.add_mul, Nat.add_mul] at hcs
                have hvm : vs.length = (m + 1) * i.size := hvl.trans hll
                have hfit : B.2 + (o + n * i.size) + 0 + vs.length ≤ C2.size := by omega
                have hrun := run_storeCells_at (P := P) B.1 (B.2 + (o + n * i.size)) E vs 0 C2 w hrow.heap hfit (concs_one l vs hvs)
                have hsz : B.2 + (o + n * i.size) + vs.length ≤ C2.toList.length := by simpa using hfit
                refine ⟨_, _, η.set nx (B.1, B.2 + o) (η.cap b - e'), app_room ht.und ht.info hzv hs0 hroom (by simp only [adr_add]; exact hrun), ?_, ?_⟩
                · rw [slx_conc (Env.set_same _ _ _ _), Env.cap_same]; rfl
                · obtain ⟨hnb, _, _⟩ := p.fresh nx (Nat.le_refl _) (by omega)
                  have hle' := Env.le_set hnb (B.1, B.2 + o) (η.cap b - e')
                  refine (Stp.move (B' := (B.1, B.2 + o)) p hb hB rfl (setRow_heap w B.1 C2 _ E _ hrow.heap) (fun k hk => setRow_other w B.1 k _ hk) rfl rfl rfl (by simp [World.setRow]) ?_).2
                  refine ⟨_, rfl, ?_, ?_, ⟨ht.pos, by rw [Env.cap_same]; have := g3.2; omega⟩, ?_⟩
                  · rw [Env.cap_same]
                    have : (η.cap b - e') * i.size = η.cap b * i.size - e' * i.size := Nat.sub_mul _ _ _
                    simp only [List.size_toArray, List.length_append, List.length_take, List.length_drop, Array.length_toList]
                    omega
                  · rw [Env.cap_same]; exact Nat.mul_le_mul_right _ hroom
                  · refine Cells.wr (C := C2) (n := n * i.size) (hC.mono hle') (concs_mono hle' _ _ hvs) (.inr ⟨by rw [hll, ← Nat.add_mul]; exact Nat.le_refl _, Nat.le_refl _⟩) (fun j v hj => ?_) (fun j hj => ?_)
                    · have := mid_in C2.toList vs (B.2 + (o + n * i.size) + 0) (by omega) j v hj
                      rw [← this]
                      simp only [List.getElem?_toArray]
                      congr 1
                      omega
                    · have := mid_out C2.toList vs (B.2 + (o + n * i.size) + 0) (by omega) j (by omega)
                      simpa using this
              · -- a new row
                obtain ⟨cv, w', η', h1, h2, h3⟩ := app_grow (c := η.cap b - e') ht p hzv hs0 hll hvs (part_first hrow hle w.drew (quiet_drew w)) (by simp; omega) (by omega) hlim (fun X => hC.part X) ty
                refine ⟨cv, w', η', h1, h2, ?_⟩
                have d1 := dm_alloc H (.lcells E ((n + (m + 1)) * i.size) i.size (wr T (n * i.size) l)) nx
                have p1 := p.next d1 h3
                obtain ⟨d2, s2⟩ := Stp.drop p1 b
                have hne : b ≠ nx := fun e1 => by
                  have := p.ext b _ hb
                  rw [e1, p.rh.fresh (p.fresh nx (Nat.le_refl _) (by omega)).1] at this; cases this
                have hfun : ((H.put (some (.lcells E ((n + (m + 1)) * i.size) i.size (wr T (n * i.size) l))) nx).put none b).get = ((H.put none b).put (some (.lcells E ((n + (m + 1)) * i.size) i.size (wr T (n * i.size) l))) nx).get := by
                  funext k
                  simp only [Tr.get_put]
                  by_cases e1 : k = b
                  · subst e1; simp [hne]
                  · simp [e1]
                rw [← hfun]
                exact Stp.trans d1 d2 h3 s2
            · cases he
          · cases he
      · cases he
    · cases he
  · cases he

end
end Go.Proofs.YtphpkalbbmlgoaaGreatDoor.Ev

namespace Go.Proofs.YtphpkalbbmlgoaaGreatDoor.Ev
open Go
noncomputable section

def fill1 (H : Tr AObj) (d : At) (l : List At) : Option (Tr AObj) :=
  match l with
  | [] => match d with
    | .sl _ _ _ _ | .slx _ _ _ _ | .emp _ | .nils => some H
    | _ => none
  | _ :: _ => match d with
    | .sl b o _ _ => match H.get b with
      | some ob => match put ob o l with | some ob' => some (H.put (some ob') b) | none => none
      | none => none
    | .slx b o _ _ => match H.get b with
      | some ob => match put ob o l with | some ob' => some (H.put (some ob') b) | none => none
      | none => none
    | _ => none

def lenAt : At → Option Nat
  | .sl _ _ n _ => some n
  | .slx _ _ n _ => some n
  | .emp _ => some 0
  | .nils => some 0
  | _ => none

theorem lenAt_ok {a : At} {n : Nat} (h : lenAt a = some n) {η : Env} {v : Value} (hv : a.conc η = some v) : ∃ base c, v = .slice base n c := by
  unfold lenAt at h
  split at h <;> cases h
  · obtain ⟨B, _, rfl⟩ := conc_sl hv; exact ⟨_, _, rfl⟩
  · obtain ⟨B, _, rfl⟩ := conc_slx hv; exact ⟨_, _, rfl⟩
  · obtain ⟨a, c, _, rfl⟩ := conc_emp hv; exact ⟨_, _, rfl⟩
  · simp only [At.conc] at hv; cases hv; exact ⟨_, _, rfl⟩

theorem fill1_ok {P : Program} {H H' : Tr AObj} {nx : Nat} {d : At} {l : List At} (hf : fill1 H d l = some H') :
    Dm H.get H'.get nx nx ∧ ∀ {η : Env} {h : Hp} {w : World} {base : Option Addr} {n c : Nat} {vs : List Value}, Pre η h w H.get nx nx → d.conc η = some (.slice base n c) → concs η l = some vs →
      ∃ w', (match base with | some a => (storeCells a vs).run P w = .ok () w' | none => w' = w) ∧ Stp η h w H.get H'.get nx nx η w' := by
  have main : ∀ (b o : Nat) (a : At) (t : List At), (∃ ob ob', H.get b = some ob ∧ put ob o (a :: t) = some ob' ∧ H' = H.put (some ob') b) →
      Dm H.get H'.get nx nx ∧ ∀ {η : Env} {h : Hp} {w : World} {B : Nat × Nat} {vs : List Value}, Pre η h w H.get nx nx → η.blk b = some B → concs η (a :: t) = some vs →
        ∃ w', (storeCells (adr B o) vs).run P w = .ok () w' ∧ Stp η h w H.get H'.get nx nx η w' := by
    rintro b o a t ⟨ob, ob', hb, hput, rfl⟩
    refine ⟨dm_set hb _ _, fun p hB hvs => ?_⟩
    obtain ⟨B', w', hB', hrun, hst⟩ := put_ok (P := P) hb hput p hvs
    rw [hB] at hB'; cases hB'
    exact ⟨w', hrun, hst⟩
  unfold fill1 at hf
  split at hf
  · have : H' = H := by split at hf <;> first | (cases hf; rfl) | cases hf
    subst this
    refine ⟨Dm.refl _ _, fun p hd hvs => ?_⟩
    rename_i η h w base n c vs
    simp [concs] at hvs; subst hvs
    exact ⟨w, by cases base <;> simp [storeCells], Stp.refl p.ext p.rh⟩
  · rename_i a t
    split at hf
    · rename_i b o n' c'
      split at hf
      · rename_i ob hb
        split at hf
        · rename_i ob' hput
          cases hf
          obtain ⟨h1, h2⟩ := main b o a t ⟨ob, ob', hb, hput, rfl⟩
          refine ⟨h1, fun p hd hvs => ?_⟩
          obtain ⟨B, hB, he⟩ := conc_sl hd
          cases he
          exact h2 p hB hvs
        · cases hf
      · cases hf
    · rename_i b o n' c'
      split at hf
      · rename_i ob hb
        split at hf
        · rename_i ob' hput
          cases hf
          obtain ⟨h1, h2⟩ := main b o a t ⟨ob, ob', hb, hput, rfl⟩
          refine ⟨h1, fun p hd hvs => ?_⟩
          obtain ⟨B, hB, he⟩ := conc_slx hd
          cases he
          exact h2 p hB hvs
        · cases hf
      · cases hf
    · cases hf

def evCopy (P : Program) (H : Tr AObj) (nx : Nat) (t tx : TypeId) (d x : At) : Option (V × Tr AObj × Nat) :=
  match slT P t with
  | some (_, sz, _, _) => match src P H tx sz x, lenAt d with
    | some (m, l), some n => match fill1 H d (l.take (Nat.min m n * sz)) with
      | some H' => some (.one (.int .i64 (Int.ofNat (Nat.min m n))), H', nx)
      | none => none
    | _, _ => none
  | none => none

theorem evCopy_ok {P : Program} {H : Tr AObj} {nx : Nat} {t tx : TypeId} {d x : At} {v : V} {H' : Tr AObj} {nx' : Nat} (he : evCopy P H nx t tx d x = some (v, H', nx')) :
    Dm H.get H'.get nx nx' ∧ ∀ {η : Env} {h : Hp} {w : World} {cd cx : Value} (ty : TypeId), Pre η h w H.get nx nx' → d.conc η = some cd → x.conc η = some cx →
      ∃ cv w', (Builtin.copy_ #[t, tx] ty #[cd, cx]).run P w = .ok cv w' ∧ v.conc η = some cv ∧ Stp η h w H.get H'.get nx nx' η w' := by
  unfold evCopy at he
  split at he
  · rename_i e sz y z hsl
    obtain ⟨i, ht, rfl, rfl⟩ := slT_ok hsl
    split at he
    · rename_i m l n hsrc hlen
      split at he
      · rename_i H2 hfill
        cases he
        obtain ⟨h1, h2⟩ := fill1_ok (P := P) (nx := nx) hfill
        refine ⟨h1, fun ty p hd hx => ?_⟩
        rename_i η h w cd cx
        obtain ⟨htx, hl, hll, vs, hvs, hf⟩ := src_ok hsrc p.ext p.rh hx
        obtain ⟨base, c, rfl⟩ := lenAt_ok hlen hd
        obtain ⟨w', h3, h4⟩ := h2 p hd (concs_take _ _ _ hvs)
        have hk : Nat.min m n ≤ m := Nat.min_le_left _ _
        refine ⟨_, w', ?_, one_conc.2 rfl, h4⟩
        have hf' := hf (Nat.min m n) hk w ⟨rfl, rfl, rfl, rfl⟩
        cases base with
        | none =>
          subst h3
          simp only [Builtin.copy_, Sem.run_bind, run_und ht.und, Result.andThen_ok, hl, run_size ht.info, hf', List.getElem?_toArray, List.getElem?_cons_zero, List.getElem?_cons_succ, Sem.run_pure]
          simp [goInt]
        | some a =>
          simp only [Builtin.copy_, Sem.run_bind, run_und ht.und, Result.andThen_ok, hl, run_size ht.info, hf', List.getElem?_toArray, List.getElem?_cons_zero, List.getElem?_cons_succ, h3, Sem.run_pure]
          simp [goInt]
      · cases he
    · cases he
  · cases he

def evClear (P : Program) (H : Tr AObj) (nx : Nat) (t : TypeId) (d : At) : Option (V × Tr AObj × Nat) :=
  match slT P t, lenAt d with
  | some (_, _, _, z), some n => match fill1 H d (reps z n) with
    | some H' => some (V.undef, H', nx)
    | none => none
  | _, _ => none

theorem evClear_ok {P : Program} {H : Tr AObj} {nx : Nat} {t : TypeId} {d : At} {v : V} {H' : Tr AObj} {nx' : Nat} (he : evClear P H nx t d = some (v, H', nx')) :
    Dm H.get H'.get nx nx' ∧ ∀ {η : Env} {h : Hp} {w : World} {cd : Value} (ty : TypeId), Pre η h w H.get nx nx' → d.conc η = some cd →
      ∃ cv w', (Builtin.clear_ #[t] ty #[cd]).run P w = .ok cv w' ∧ v.conc η = some cv ∧ Stp η h w H.get H'.get nx nx' η w' := by
  unfold evClear at he
  split at he
  · rename_i e sz y z n hsl hlen
    obtain ⟨i, ht, rfl, rfl⟩ := slT_ok hsl
    split at he
    · rename_i H2 hfill
      cases he
      obtain ⟨h1, h2⟩ := fill1_ok (P := P) (nx := nx) hfill
      refine ⟨h1, fun ty p hd => ?_⟩
      rename_i η h w cd
      obtain ⟨base, c, rfl⟩ := lenAt_ok hlen hd
      obtain ⟨zv, zs, z1, z2, z3, z4, _⟩ := ht.zeroV η w
      obtain ⟨w', h3, h4⟩ := h2 p hd (reps_conc z2 n)
      refine ⟨.tuple #[], w', ?_, rfl, h4⟩
      have hzp : 0 < (⟨zs⟩ : Array Value).size := by show 0 < zs.length; rw [z4]; exact ht.pos
      have hzc : Builtin.zeroCells zv.cells n = ⟨repsV zs n⟩ := by rw [z3]; exact zeros_eq ⟨zs⟩ n hzp
      cases base with
      | none => subst h3; simp [Builtin.clear_, run_und ht.und]
      | some a =>
        cases n with
        | zero => simp [repsV, storeCells] at h3; subst h3; simp [Builtin.clear_, run_und ht.und]
        | succ n => simp [Builtin.clear_, run_und ht.und, z1, hzc, h3]
    · cases he
  · cases he

def evMakeMap (P : Program) (H : Tr AObj) (nx : Nat) (t : TypeId) (r : Option At) : Option (V × Tr AObj × Nat) :=
  match P.underlying t, r with
  | some (.map _ _), none => some (.one (.map nx), H.put (some (.map [] 0)) nx, nx + 1)
  | some (.map _ _), some (.int _ _) => some (.one (.map nx), H.put (some (.map [] 0)) nx, nx + 1)
  | _, _ => none

theorem evMakeMap_ok {P : Program} {H : Tr AObj} {nx : Nat} {t : TypeId} {r : Option At} {v : V} {H' : Tr AObj} {nx' : Nat} (he : evMakeMap P H nx t r = some (v, H', nx')) :
    Dm H.get H'.get nx nx' ∧ ∀ {η : Env} {h : Hp} {w : World} {cr : Option Value}, Pre η h w H.get nx nx' → optC η r cr →
      ∃ cv w' η', (Instr.makeMap t cr).run P w = .ok cv w' ∧ v.conc η' = some cv ∧ Stp η h w H.get H'.get nx nx' η' w' := by
  have main : ∀ {η : Env} {h : Hp} {w : World}, Pre η h w H.get nx (nx + 1) → ∃ η', (V.one (.map nx)).conc η' = some (.map (some w.heap.size)) ∧ Stp η h w H.get (H.put (some (.map [] 0)) nx).get nx (nx + 1) η' (w.alloc (.map #[] 0)) := by
    intro η h w p
    have hs := Stp.alloc (w' := w.alloc (.map #[] 0)) p (.map #[] 0) (.map [] 0) 0 ⟨rfl, rfl, rfl, rfl⟩ ⟨#[], rfl, .nil⟩
    exact ⟨_, by rw [one_conc]; simp [At.conc, Env.set_same], hs.2⟩
  unfold evMakeMap at he
  split at he
  · rename_i kt et hu
    cases he
    refine ⟨dm_alloc _ _ _, fun p hr => ?_⟩
    rename_i η h w cr
    cases cr with
    | some _ => exact hr.elim
    | none =>
      obtain ⟨η', h1, h2⟩ := main p
      exact ⟨_, _, η', by simp [Instr.makeMap], h1, h2⟩
  · rename_i kt et k n hu
    cases he
    refine ⟨dm_alloc _ _ _, fun p hr => ?_⟩
    rename_i η h w cr
    cases cr with
    | none => exact hr.elim
    | some c =>
      simp only [optC, At.conc] at hr
      cases hr
      obtain ⟨η', h1, h2⟩ := main p
      exact ⟨_, _, η', by simp [Instr.makeMap, run_und hu, asInt, asIntOf], h1, h2⟩
  · cases he

def evRange (P : Program) (H : Tr AObj) (nx : Nat) (t : TypeId) (x : At) : Option (V × Tr AObj × Nat) :=
  match P.underlying t, x with
  | some (.map _ _), .map b => match H.get b with
    | some (.map _ _) => some (.one (.ptr nx 0), H.put (some (.mit b)) nx, nx + 1)
    | _ => none
  | _, _ => none

theorem evRange_ok {P : Program} {H : Tr AObj} {nx : Nat} {t : TypeId} {x : At} {v : V} {H' : Tr AObj} {nx' : Nat} (he : evRange P H nx t x = some (v, H', nx')) :
    Dm H.get H'.get nx nx' ∧ ∀ {η : Env} {h : Hp} {w : World} {cx : Value}, Pre η h w H.get nx nx' → x.conc η = some cx →
      ∃ cv w' η', (Instr.range t cx).run P w = .ok cv w' ∧ v.conc η' = some cv ∧ Stp η h w H.get H'.get nx nx' η' w' := by
  unfold evRange at he
  split at he
  · rename_i kt et b hu
    split at he
    · rename_i es clock hb
      cases he
      refine ⟨dm_alloc _ _ _, fun p hx => ?_⟩
      rename_i η h w cx
      obtain ⟨B, hB, rfl⟩ := conc_map hx
      obtain ⟨B', co, hB', hw, ms, rfl, hms⟩ := p.rh.live b _ (p.ext b _ hb)
      obtain rfl : B = B' := Option.some.inj (hB.symm.trans hB')
      obtain ⟨hnb, _, _⟩ := p.fresh nx (Nat.le_refl _) (by omega)
      have hs := Stp.alloc (w' := w.alloc (.mapIter (some B.1) clock #[] clock)) p (.mapIter (some B.1) clock #[] clock) (.mit b) 0 ⟨rfl, rfl, rfl, rfl⟩ ⟨rfl, B, clock, clock, ((Env.le_set hnb _ _).blk b B hB).1, rfl⟩
      refine ⟨.pointer (some ⟨w.heap.size, 0, none⟩), _, _, ?_, by rw [one_conc]; simp [At.conc, Env.set_same, adr], hs.2⟩
      simp [Instr.range, run_und hu, getObj, Sem.run, hw]
    · cases he
  · cases he

def setE : List Ent → Nat → (Bool × List At) → (Bool × List At) → List Ent
  | [], _, _, _ => []
  | (_, _, n) :: l, 0, k, v => (k, v, n) :: l
  | e :: l, i + 1, k, v => e :: setE l i k v

theorem Ents.set {η : Env} {es : List Ent} {ms : List MapEntry} (h : Ents η es ms) {k v : Bool × List At} {ck cv : Value} (hk : comp η k.1 k.2 = some ck) (hv : comp η v.1 v.2 = some cv) :
    ∀ i, Ents η (setE es i k v) (ms.modify i fun e => { e with key := ck, val := cv }) := by
  induction h with
  | nil => intro i; cases i <;> simp [setE] <;> exact .nil
  | cons hk' hv' h ih =>
    intro i
    cases i with
    | zero => simp only [setE, List.modify_zero_cons]; exact .cons hk hv h
    | succ i => simp only [setE, List.modify_succ_cons]; exact .cons hk' hv' (ih i)

theorem Ents.snoc {η : Env} {es : List Ent} {ms : List MapEntry} (h : Ents η es ms) {k v : Bool × List At} {ck cv : Value} (hk : comp η k.1 k.2 = some ck) (hv : comp η v.1 v.2 = some cv) (n : Nat) :
    Ents η (es ++ [(k, v, n)]) (ms ++ [⟨ck, cv, n⟩]) := by
  induction h with
  | nil => exact .cons hk hv .nil
  | cons hk' hv' _ ih => exact .cons hk' hv' ih

def evMapUpdate (P : Program) (H : Tr AObj) (nx : Nat) (t : TypeId) (m : At) (k x : V) : Option (V × Tr AObj × Nat) :=
  match P.underlying t, m, k, x with
  | some (.map kt _), .map b, .c gk lk, .c gx lx => match H.get b with
    | some (.map es clock) => match evFind P kt (.c gk lk) es false with
      | some (some i) => match es[i]?, comp Env.void gk lk with
        | some (k0, _, _), some kv => match comp Env.void k0.1 k0.2 with
          | some k0v => match runA P (Instr.keyThatStays k0v kv) with
            | some k1v => match absC k1v with
              | some k1 => some (V.undef, H.put (some (.map (setE es i k1 (gx, lx)) clock)) b, nx)
              | none => none
            | none => none
          | none => none
        | _, _ => none
      | some none => some (V.undef, H.put (some (.map (es ++ [((gk, lk), (gx, lx), clock)]) (clock + 1))) b, nx)
      | none => none
    | _ => none
  | _, _, _, _ => none

theorem evMapUpdate_ok {P : Program} {H : Tr AObj} {nx : Nat} {t : TypeId} {m : At} {k x : V} {v : V} {H' : Tr AObj} {nx' : Nat} (he : evMapUpdate P H nx t m k x = some (v, H', nx')) :
    v = V.undef ∧ Dm H.get H'.get nx nx' ∧ ∀ {η : Env} {h : Hp} {w : World} {cm ck cx : Value}, Pre η h w H.get nx nx' → m.conc η = some cm → k.conc η = some ck → x.conc η = some cx →
      ∃ w', (Instr.mapUpdate t cm ck cx).run P w = .ok () w' ∧ Stp η h w H.get H'.get nx nx' η w' := by
  unfold evMapUpdate at he
  split at he
  · rename_i kt et b gk lk gx lx hu
    split at he
    · rename_i es clock hb
      have gen : ∀ {η : Env} {h : Hp} {w : World} {B : Nat × Nat} {ms ms' : Array MapEntry} {es' : List Ent} {c' : Nat}, Pre η h w H.get nx nx → η.blk b = some B → w.heap[B.1]? = some (.map ms clock) → Ents η es' ms'.toList →
          (setObj B.1 (.map ms' c')).run P w = .ok () { w with heap := w.heap.setIfInBounds B.1 (.map ms' c') } ∧ Stp η h w H.get (H.put (some (.map es' c')) b).get nx nx η { w with heap := w.heap.setIfInBounds B.1 (.map ms' c') } := by
        intro η h w B ms ms' es' c' p hB hw hE
        have hlt : B.1 < w.heap.size := (Array.getElem?_eq_some_iff.1 hw).1
        refine ⟨by simp [setObj, Sem.run, hw], (Stp.set (w' := { w with heap := w.heap.setIfInBounds B.1 (.map ms' c') }) p hb hB (co' := .map ms' c') (o' := .map es' c') ?_ ?_ rfl rfl rfl (by simp) ⟨ms', rfl, hE⟩).2⟩
        · simp [hlt]
        · intro j hj; simp [Array.getElem?_setIfInBounds_ne (Ne.symm hj)]
      split at he
      · rename_i i hf
        split at he
        · rename_i k0 v0 n0 kv hi hkv
          split at he
          · rename_i k0v hk0
            split at he
            · rename_i k1v hstay
              split at he
              · rename_i k1 hk1
                cases he
                refine ⟨rfl, dm_set hb _ _, fun p hm hk hx => ?_⟩
                rename_i η h w cm ck cx
                obtain ⟨B, hB, rfl⟩ := conc_map hm
                obtain ⟨B', co, hB', hw, ms, rfl, hms⟩ := p.rh.live b _ (p.ext b _ hb)
                obtain rfl : B = B' := Option.some.inj (hB.symm.trans hB')
                obtain ⟨h1, e, h2, h3⟩ := evFind_ok hf (w := w) hms hk
                obtain ⟨ck0, cv0, h4, h5, h6⟩ := hms.get i k0 v0 n0 hi
                rw [h2] at h4; cases h4
                have hkk := comp_mono (Env.void_le η) hkv
                have hk' : comp η gk lk = some ck := hk
                rw [hk'] at hkk; cases hkk
                have hk00 := comp_mono (Env.void_le η) hk0
                rw [h5] at hk00; cases hk00
                have hs := runA_run hstay w
                obtain ⟨g1, g2⟩ := gen (ms' := ms.modify i fun e => { e with key := k1v, val := cx }) (es' := setE es i k1 (gx, lx)) (c' := clock) p hB hw (by
                  rw [Array.toList_modify]; exact hms.set (k := k1) (v := (gx, lx)) (absC_conc η hk1) hx i)
                refine ⟨_, ?_, g2⟩
                have hge := h2
                simp only [Array.getElem?_toList] at hge
                have hgo : (getObj B.1).run P w = .ok (.map ms clock) w := by simp [getObj, Sem.run, hw]
                simp only [Instr.mapUpdate, Sem.run_bind, run_und hu, Result.andThen_ok, hgo, h1, h3, hge, Option.map_some, Option.getD_some, hs]
                exact g1
              · cases he
            · cases he
          · cases he
        · cases he
      · rename_i hf
        cases he
        refine ⟨rfl, dm_set hb _ _, fun p hm hk hx => ?_⟩
        rename_i η h w cm ck cx
        obtain ⟨B, hB, rfl⟩ := conc_map hm
        obtain ⟨B', co, hB', hw, ms, rfl, hms⟩ := p.rh.live b _ (p.ext b _ hb)
        obtain rfl : B = B' := Option.some.inj (hB.symm.trans hB')
        obtain ⟨h1, h3⟩ := evFind_ok hf (w := w) hms hk
        obtain ⟨g1, g2⟩ := gen (ms' := ms.push ⟨ck, cx, clock⟩) (es' := es ++ [((gk, lk), (gx, lx), clock)]) (c' := clock + 1) p hB hw (by
          rw [Array.toList_push]; exact hms.snoc (k := (gk, lk)) (v := (gx, lx)) hk hx clock)
        refine ⟨_, ?_, g2⟩
        have hgo : (getObj B.1).run P w = .ok (.map ms clock) w := by simp [getObj, Sem.run, hw]
        simp only [Instr.mapUpdate, Sem.run_bind, run_und hu, Result.andThen_ok, hgo, h1, h3]
        exact g1
      · cases he
    · cases he
  · cases he

def evS2B (P : Program) (H : Tr AObj) (nx : Nat) (s t : TypeId) (l : List UInt8) : Option (V × Tr AObj × Nat) :=
  match P.underlying s, P.underlying t with
  | some .string, some (.slice e) => match P.underlying e with
    | some (.int .u8) => match Nat.ble l.length (2 ^ 47) with
      | true => some (.one (.slx nx 0 l.length 0), H.put (some (.scells e l.length (wr .nil 0 (bytesA l)))) nx, nx + 1)
      | false => none
    | _ => none
  | _, _ => none

theorem evS2B_ok {P : Program} {H : Tr AObj} {nx : Nat} {s t : TypeId} {l : List UInt8} {v : V} {H' : Tr AObj} {nx' : Nat} (he : evS2B P H nx s t l = some (v, H', nx')) :
    Dm H.get H'.get nx nx' ∧ ∀ {η : Env} {h : Hp} {w : World}, Pre η h w H.get nx nx' → ∃ cv w' η', (convert s t (.string ⟨⟨l⟩⟩)).run P w = .ok cv w' ∧ v.conc η' = some cv ∧ Stp η h w H.get H'.get nx nx' η' w' := by
  unfold evS2B at he
  split at he
  · rename_i e hs ht
    split at he
    · rename_i hE
      split at he
      case h_2 => cases he
      rename_i hlim
      have hlim := Nat.le_of_ble_eq_true hlim
      cases he
      refine ⟨dm_alloc _ _ _, fun {η h w} p => ?_⟩
      have hsz : (⟨⟨l⟩⟩ : ByteArray).size = l.length := rfl
      have hrun := run_bytes_of_string (P := P) w s t e ⟨⟨l⟩⟩ hs ht hE
      rw [hsz] at hrun
      have hK := grownCap_ge w l.length 0 e
      obtain ⟨hnb, _, _⟩ := p.fresh nx (Nat.le_refl _) (by omega)
      have hbl : (bytesA l).length = l.length := by rw [← concs_length _ _ (bytesA_conc η l)]; simp
      refine ⟨_, _, η.set nx (w.heap.size, 0) (grownCap w l.length 0 e), hrun, ?_, (Stp.alloc (w' := w.drew.alloc (.cells (bytesRow ⟨⟨l⟩⟩ (grownCap w l.length 0 e)) e ((bytesRow ⟨⟨l⟩⟩ (grownCap w l.length 0 e)).size, (bytesRow ⟨⟨l⟩⟩ (grownCap w l.length 0 e)).size + 1))) p (.cells (bytesRow ⟨⟨l⟩⟩ (grownCap w l.length 0 e)) e ((bytesRow ⟨⟨l⟩⟩ (grownCap w l.length 0 e)).size, (bytesRow ⟨⟨l⟩⟩ (grownCap w l.length 0 e)).size + 1)) (.scells e l.length (wr .nil 0 (bytesA l))) (grownCap w l.length 0 e) ⟨rfl, rfl, rfl, rfl⟩ ?_).2⟩
      · rw [slx_conc (Env.set_same _ _ _ _), Env.cap_same]; rfl
      · refine ⟨_, _, rfl, ?_, ?_, ?_⟩
        · rw [Env.cap_same]; simp [bytesRow, hsz]; omega
        · rw [Env.cap_same]; exact ⟨hK, grownCap_le_maxLen _ _ _ _ (by unfold maxLen; omega)⟩
        · refine Cells.new (bytesA_conc _ l) (fun j v hj => ?_) (by omega)
          have hj' : j < l.length := by have := (List.getElem?_eq_some_iff.1 hj).1; simpa using this
          simp only [bytesRow]
          rw [Array.getElem?_append, if_pos (by simpa using hj')]
          simpa using hj
    · cases he
  · cases he

end
end Go.Proofs.YtphpkalbbmlgoaaGreatDoor.Ev

namespace Go.Proofs.YtphpkalbbmlgoaaGreatDoor.Ev
open Go
noncomputable section

def evEmp (P : Program) (H : Tr AObj) (nx : Nat) (t : TypeId) (x : At) (lo hi mx : Option At) : Option (V × Tr AObj × Nat) :=
  match P.underlying t with
  | some (.slice e) => match P.info? e, x with
    | some i, .slx b o n e' => match known H b o e' i.size with
      | some k => match mx with
        | some _ => none
        | none => match bnds n k lo hi none with
          | some (l, h, _) => match Nat.beq l h with
            | true => some (.one (.emp nx), H, nx + 1)
            | false => none
          | none => none
      | none => none
    | _, _ => none
  | _ => none

def evW (P : Program) (o : Oper) (tm : Tr V) (H : Tr AObj) (nx : Nat) : Option (V × Tr AObj × Nat) :=
  match o.op with
  | .alloc t => evAlloc P H nx t
  | .box t x => match evO P tm x with | some v => evBox H nx t v | none => none
  | .buildSlice t len ps => match evParts P tm ps.toList with | some l => evBuildSlice P H nx t len l | none => none
  | .store t a x => match evO P tm a, evO P tm x with
    | some (.c false [p]), some v => evStore P H nx t p v
    | _, _ => none
  | .makeSlice t l c => match evO P tm l, evO P tm c with
    | some (.c false [a]), some (.c false [b]) => evMakeSlice P H nx t a b
    | _, _ => none
  | .makeMap t r => match evOpt P tm r with | some a => evMakeMap P H nx t a | none => none
  | .mapUpdate t m k x => match evO P tm m, evO P tm k, evO P tm x with
    | some (.c false [a]), some u, some v => evMapUpdate P H nx t a u v
    | _, _, _ => none
  | .insert t m k x => match evO P tm m, evO P tm k, evO P tm x with
    | some (.c false [a]), some u, some v => evMapUpdate P H nx t a u v
    | _, _, _ => none
  | .range t x => match evO P tm x with | some (.c false [a]) => evRange P H nx t a | _ => none
  | .convert s t x => match evO P tm x with | some (.c false [.str l]) => evS2B P H nx s t l | _ => none
  | .slice t x lo hi mx => match evO P tm x with
    | some (.c false [a]) => match evOpt P tm lo, evOpt P tm hi, evOpt P tm mx with
      | some l, some h, some m => evEmp P H nx t a l h m
      | _, _, _ => none
    | _ => none
  | .call c => match c.callee with
    | .builtin .append => match c.args.toList, c.argTypes.toList with
      | [s, x], [t, tx] => match evO P tm s, evO P tm x with
        | some (.c false [a]), some (.c false [b]) => evAppend P H nx t tx a b
        | _, _ => none
      | _, _ => none
    | .builtin .copy => match c.args.toList, c.argTypes.toList with
      | [s, x], [t, tx] => match evO P tm s, evO P tm x with
        | some (.c false [a]), some (.c false [b]) => evCopy P H nx t tx a b
        | _, _ => none
      | _, _ => none
    | .builtin .clear => match c.args.toList, c.argTypes.toList with
      | [s], [t] => match evO P tm s with
        | some (.c false [a]) => evClear P H nx t a
        | _ => none
      | _, _ => none
    | _ => none
  | _ => none

def evS (P : Program) (o : Oper) (tm : Tr V) (H : Tr AObj) (nx : Nat) : Option (V × Tr AObj × Nat) :=
  match evR P o tm H with
  | some v => some (v, H, nx)
  | none => evW P o tm H nx

def evGuard (ops : Array Oper) (o : Oper) (tm : Tr V) : Option Bool :=
  match o.guard with
  | none => some true
  | some (j, want) => match ops[j]? with
    | some oj => match oj.dst with
      | some d => match tm.get d with
        | some (.c false [.bool b]) => some (b == want)
        | some (.tup _) => some false
        | _ => none
      | none => some false
    | none => some false

def putA (nt : Nat) (tm : Tr V) (dst : Option Tmp) (v : V) : Option (Tr V) :=
  match dst with
  | none => some tm
  | some d => match Nat.blt d nt with | true => some (tm.put (some v) d) | false => none

inductive Ex where
  | normal
  | exit (id : Nat)
  | goto (l : Nat)
  | ret
  deriving Inhabited

abbrev Res := Option (Ex × Tr V × Tr AObj × Nat × List Nat)

structure Fns where
  code : Code → Nat → Option Nat → Tr V → Tr AObj → Nat → List Nat → Res
  call : FuncId → List V → Tr AObj → Nat → Option (V × Tr AObj × Nat)
  round : Nat → List V → Tr AObj → Nat → Option (V × Tr AObj × Nat)
  scope : Code → Code → Nat → Option Nat → Tr V → Tr AObj → Nat → List Nat → Res

inductive Whom where
  | fn (f : FuncId) (args : List V)
  | yld (l : Nat) (args : List V)

def capsV : List (Nat × Nat) → List V
  | [] => []
  | (b, o) :: l => .one (.ptr b o) :: capsV l

def absVs : List Fst → Option (List V)
  | [] => some []
  | .val v :: l => match absV v, absVs l with
    | some a, some ys => some (a :: ys)
    | _, _ => none
  | .ptr b o :: l => match absVs l with
    | some ys => some (.one (.ptr b o) :: ys)
    | none => none

def whom (P : Program) (c : Call) (tm : Tr V) : Option Whom :=
  match c.callee with
  | .value g => match evO P tm g, evOs P tm c.args.toList with
    | some (.c false [.fn f first caps]), some vs => match absVs first with | some us => some (.fn f (us ++ (vs ++ capsV caps))) | none => none
    | some (.c false [.yld l]), some vs => some (.yld l vs)
    | _, _ => none
  | _ => none

def evB (F : Fns) (P : Program) (o : Oper) (tm : Tr V) (H : Tr AObj) (nx : Nat) : Option (V × Tr AObj × Nat) :=
  match o.op with
  | .call c => match whom P c tm with
    | some (.fn f args) => F.call f args H nx
    | some (.yld l args) => F.round l args H nx
    | none => none
  | _ => none

def isCall : Op → Bool
  | .call { callee := .value _, .. } => true
  | _ => false

def evOps (F : Fns) (P : Program) (ops : Array Oper) (nt : Nat) : List Oper → Tr V → Tr AObj → Nat → Option (Tr V × Tr AObj × Nat)
  | [], tm, H, nx => some (tm, H, nx)
  | o :: l, tm, H, nx => match evGuard ops o tm with
    | some true => match (match isCall o.op with | true => evB F P o tm H nx | false => evS P o tm H nx) with
      | some (v, H', nx') => match putA nt tm o.dst v with
        | some tm' => evOps F P ops nt l tm' H' nx'
        | none => none
      | none => none
    | some false => match putA nt tm o.dst V.undef with
      | some tm' => evOps F P ops nt l tm' H nx
      | none => none
    | none => none

def tmOf : Nat → List V → Tr V
  | _, [] => .nil
  | i, v :: l => (tmOf (i + 1) l).put (some v) i

def resC (P : Program) (tm : Tr V) (H : Tr AObj) : ResultVar → Option (Bool × List At)
  | .tmp t => match tm.get t with
    | some (.c g l) => some (g, l)
    | _ => none
  | .cell a t => match tm.get a with
    | some (.c false [p]) => match evLoad P H t p with | some (.c g l) => some (g, l) | _ => none
    | _ => none

def resCs (P : Program) (tm : Tr V) (H : Tr AObj) : List ResultVar → Option (List (Bool × List At))
  | [] => some []
  | r :: l => match resC P tm H r, resCs P tm H l with
    | some c, some cs => some (c :: cs)
    | _, _ => none

def resV : List (Bool × List At) → V
  | [(g, l)] => .c g l
  | l => .tup l

end
end Go.Proofs.YtphpkalbbmlgoaaGreatDoor.Ev
