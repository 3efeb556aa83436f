/- An abstract interpreter of the model's code, twelfth part: copy, clear, maps that are written. -/
import Derived.Test.YtmnaddlniaklcaaGreatDoorEv11
namespace Go.Proofs.YtmnaddlniaklcaaGreatDoor.Ev
open Go
noncomputable section

/-! ### copy -/
/-- The first cells of a slice are written. -/
def fill1 (H : Tr AObj) (d : At) (l : List At) : Option (Tr AObj) :=
  match l with
  | [] => match d with
    | .sl _ _ _ _ | .slx _ _ _ _ | .emp _ | .nils => some H
    | _ => none
  | _ :: _ => match d with
    | .sl b o _ _ => match H.get b with
      | some ob => match put ob o l with | some ob' => some (H.put (some ob') b) | none => none
      | none => none
    | .slx b o _ _ => match H.get b with
      | some ob => match put ob o l with | some ob' => some (H.put (some ob') b) | none => none
      | none => none
    | _ => none

def lenAt : At → Option Nat
  | .sl _ _ n _ => some n
  | .slx _ _ n _ => some n
  | .emp _ => some 0
  | .nils => some 0
  | _ => none
theorem lenAt_ok {a : At} {n : Nat} (h : lenAt a = some n) {η : Env} {v : Value} (hv : a.conc η = some v) : ∃ base c, v = .slice base n c := by
  unfold lenAt at h
  split at h <;> cases h
  · obtain ⟨B, _, rfl⟩ := conc_sl hv; exact ⟨_, _, rfl⟩
  · obtain ⟨B, _, rfl⟩ := conc_slx hv; exact ⟨_, _, rfl⟩
  · obtain ⟨a, c, _, rfl⟩ := conc_emp hv; exact ⟨_, _, rfl⟩
  · simp only [At.conc] at hv; cases hv; exact ⟨_, _, rfl⟩

theorem fill1_ok {P : Program} {H H' : Tr AObj} {nx : Nat} {d : At} {l : List At} (hf : fill1 H d l = some H') :
    Dm H.get H'.get nx nx ∧ ∀ {η : Env} {h : Hp} {w : World} {base : Option Addr} {n c : Nat} {vs : List Value}, Pre η h w H.get nx nx → d.conc η = some (.slice base n c) → concs η l = some vs →
      ∃ w', (match base with | some a => (storeCells a vs).run P w = .ok () w' | none => w' = w) ∧ Stp η h w H.get H'.get nx nx η w' := by
  have main : ∀ (b o : Nat) (a : At) (t : List At), (∃ ob ob', H.get b = some ob ∧ put ob o (a :: t) = some ob' ∧ H' = H.put (some ob') b) →
      Dm H.get H'.get nx nx ∧ ∀ {η : Env} {h : Hp} {w : World} {B : Nat × Nat} {vs : List Value}, Pre η h w H.get nx nx → η.blk b = some B → concs η (a :: t) = some vs →
        ∃ w', (storeCells (adr B o) vs).run P w = .ok () w' ∧ Stp η h w H.get H'.get nx nx η w' := by
    rintro b o a t ⟨ob, ob', hb, hput, rfl⟩
    refine ⟨dm_set hb _ _, fun p hB hvs => ?_⟩
    obtain ⟨B', w', hB', hrun, hst⟩ := put_ok (P := P) hb hput p hvs
    rw [hB] at hB'; cases hB'
    exact ⟨w', hrun, hst⟩
  unfold fill1 at hf
  split at hf
  · have : H' = H := by split at hf <;> first | (cases hf; rfl) | cases hf
    subst this
    refine ⟨Dm.refl _ _, fun p hd hvs => ?_⟩
    rename_i η h w base n c vs
    simp [concs] at hvs; subst hvs
    exact ⟨w, by cases base <;> simp [storeCells], Stp.refl p.ext p.rh⟩
  · rename_i a t
    split at hf
    · rename_i b o n' c'
      split at hf
      · rename_i ob hb
        split at hf
        · rename_i ob' hput
          cases hf
          obtain ⟨h1, h2⟩ := main b o a t ⟨ob, ob', hb, hput, rfl⟩
          refine ⟨h1, fun p hd hvs => ?_⟩
          obtain ⟨B, hB, he⟩ := conc_sl hd
          cases he
          exact h2 p hB hvs
        · cases hf
      · cases hf
    · rename_i b o n' c'
      split at hf
      · rename_i ob hb
        split at hf
        · rename_i ob' hput
          cases hf
          obtain ⟨h1, h2⟩ := main b o a t ⟨ob, ob', hb, hput, rfl⟩
          refine ⟨h1, fun p hd hvs => ?_⟩
          obtain ⟨B, hB, he⟩ := conc_slx hd
          cases he
          exact h2 p hB hvs
        · cases hf
      · cases hf
    · cases hf

def evCopy (P : Program) (H : Tr AObj) (nx : Nat) (t tx : TypeId) (d x : At) : Option (V × Tr AObj × Nat) :=
  match slT P t with
  | some (_, sz, _, _) => match src P H tx sz x, lenAt d with
    | some (m, l), some n => match fill1 H d (l.take (Nat.min m n * sz)) with
      | some H' => some (.one (.int .i64 (Int.ofNat (Nat.min m n))), H', nx)
      | none => none
    | _, _ => none
  | none => none

theorem evCopy_ok {P : Program} {H : Tr AObj} {nx : Nat} {t tx : TypeId} {d x : At} {v : V} {H' : Tr AObj} {nx' : Nat} (he : evCopy P H nx t tx d x = some (v, H', nx')) :
    Dm H.get H'.get nx nx' ∧ ∀ {η : Env} {h : Hp} {w : World} {cd cx : Value} (ty : TypeId), Pre η h w H.get nx nx' → d.conc η = some cd → x.conc η = some cx →
      ∃ cv w', (Builtin.copy_ #[t, tx] ty #[cd, cx]).run P w = .ok cv w' ∧ v.conc η = some cv ∧ Stp η h w H.get H'.get nx nx' η w' := by
  unfold evCopy at he
  split at he
  · rename_i e sz y z hsl
    obtain ⟨i, ht, rfl, rfl⟩ := slT_ok hsl
    split at he
    · rename_i m l n hsrc hlen
      split at he
      · rename_i H2 hfill
        cases he
        obtain ⟨h1, h2⟩ := fill1_ok (P := P) (nx := nx) hfill
        refine ⟨h1, fun ty p hd hx => ?_⟩
        rename_i η h w cd cx
        obtain ⟨htx, hl, hll, vs, hvs, hf⟩ := src_ok hsrc p.ext p.rh hx
        obtain ⟨base, c, rfl⟩ := lenAt_ok hlen hd
        obtain ⟨w', h3, h4⟩ := h2 p hd (concs_take _ _ _ hvs)
        have hk : Nat.min m n ≤ m := Nat.min_le_left _ _
        refine ⟨_, w', ?_, one_conc.2 rfl, h4⟩
        have hf' := hf (Nat.min m n) hk w ⟨rfl, rfl, rfl, rfl⟩
        cases base with
        | none =>
          subst h3
          simp only [Builtin.copy_, Sem.run_bind, run_und ht.und, Result.andThen_ok, hl, run_size ht.info, hf', List.getElem?_toArray, List.getElem?_cons_zero, List.getElem?_cons_succ, Sem.run_pure]
          simp [goInt]
        | some a =>
          simp only [Builtin.copy_, Sem.run_bind, run_und ht.und, Result.andThen_ok, hl, run_size ht.info, hf', List.getElem?_toArray, List.getElem?_cons_zero, List.getElem?_cons_succ, h3, Sem.run_pure]
          simp [goInt]
      · cases he
    · cases he
  · cases he

/-! ### clear -/
def evClear (P : Program) (H : Tr AObj) (nx : Nat) (t : TypeId) (d : At) : Option (V × Tr AObj × Nat) :=
  match slT P t, lenAt d with
  | some (_, _, _, z), some n => match fill1 H d (reps z n) with
    | some H' => some (V.undef, H', nx)
    | none => none
  | _, _ => none

theorem evClear_ok {P : Program} {H : Tr AObj} {nx : Nat} {t : TypeId} {d : At} {v : V} {H' : Tr AObj} {nx' : Nat} (he : evClear P H nx t d = some (v, H', nx')) :
    Dm H.get H'.get nx nx' ∧ ∀ {η : Env} {h : Hp} {w : World} {cd : Value} (ty : TypeId), Pre η h w H.get nx nx' → d.conc η = some cd →
      ∃ cv w', (Builtin.clear_ #[t] ty #[cd]).run P w = .ok cv w' ∧ v.conc η = some cv ∧ Stp η h w H.get H'.get nx nx' η w' := by
  unfold evClear at he
  split at he
  · rename_i e sz y z n hsl hlen
    obtain ⟨i, ht, rfl, rfl⟩ := slT_ok hsl
    split at he
    · rename_i H2 hfill
      cases he
      obtain ⟨h1, h2⟩ := fill1_ok (P := P) (nx := nx) hfill
      refine ⟨h1, fun ty p hd => ?_⟩
      rename_i η h w cd
      obtain ⟨base, c, rfl⟩ := lenAt_ok hlen hd
      obtain ⟨zv, zs, z1, z2, z3, z4, _⟩ := ht.zeroV η w
      obtain ⟨w', h3, h4⟩ := h2 p hd (reps_conc z2 n)
      refine ⟨.tuple #[], w', ?_, rfl, h4⟩
      have hzp : 0 < (⟨zs⟩ : Array Value).size := by show 0 < zs.length; rw [z4]; exact ht.pos
      have hzc : Builtin.zeroCells zv.cells n = ⟨repsV zs n⟩ := by rw [z3]; exact zeros_eq ⟨zs⟩ n hzp
      cases base with
      | none => subst h3; simp [Builtin.clear_, run_und ht.und]
      | some a =>
        cases n with
        | zero => simp [repsV, storeCells] at h3; subst h3; simp [Builtin.clear_, run_und ht.und]
        | succ n => simp [Builtin.clear_, run_und ht.und, z1, hzc, h3]
    · cases he
  · cases he

/-! ### Maps -/
def evMakeMap (P : Program) (H : Tr AObj) (nx : Nat) (t : TypeId) (r : Option At) : Option (V × Tr AObj × Nat) :=
  match P.underlying t, r with
  | some (.map _ _), none => some (.one (.map nx), H.put (some (.map [] 0)) nx, nx + 1)
  | some (.map _ _), some (.int _ _) => some (.one (.map nx), H.put (some (.map [] 0)) nx, nx + 1)
  | _, _ => none

theorem evMakeMap_ok {P : Program} {H : Tr AObj} {nx : Nat} {t : TypeId} {r : Option At} {v : V} {H' : Tr AObj} {nx' : Nat} (he : evMakeMap P H nx t r = some (v, H', nx')) :
    Dm H.get H'.get nx nx' ∧ ∀ {η : Env} {h : Hp} {w : World} {cr : Option Value}, Pre η h w H.get nx nx' → optC η r cr →
      ∃ cv w' η', (Instr.makeMap t cr).run P w = .ok cv w' ∧ v.conc η' = some cv ∧ Stp η h w H.get H'.get nx nx' η' w' := by
  have main : ∀ {η : Env} {h : Hp} {w : World}, Pre η h w H.get nx (nx + 1) → ∃ η', (V.one (.map nx)).conc η' = some (.map (some w.heap.size)) ∧ Stp η h w H.get (H.put (some (.map [] 0)) nx).get nx (nx + 1) η' (w.alloc (.map #[] 0)) := by
    intro η h w p
    have hs := Stp.alloc (w' := w.alloc (.map #[] 0)) p (.map #[] 0) (.map [] 0) 0 ⟨rfl, rfl, rfl, rfl⟩ ⟨#[], rfl, .nil⟩
    exact ⟨_, by rw [one_conc]; simp [At.conc, Env.set_same], hs.2⟩
  unfold evMakeMap at he
  split at he
  · rename_i kt et hu
    cases he
    refine ⟨dm_alloc _ _ _, fun p hr => ?_⟩
    rename_i η h w cr
    cases cr with
    | some _ => exact hr.elim
    | none =>
      obtain ⟨η', h1, h2⟩ := main p
      exact ⟨_, _, η', by simp [Instr.makeMap], h1, h2⟩
  · rename_i kt et k n hu
    cases he
    refine ⟨dm_alloc _ _ _, fun p hr => ?_⟩
    rename_i η h w cr
    cases cr with
    | none => exact hr.elim
    | some c =>
      simp only [optC, At.conc] at hr
      cases hr
      obtain ⟨η', h1, h2⟩ := main p
      exact ⟨_, _, η', by simp [Instr.makeMap, run_und hu, asInt, asIntOf], h1, h2⟩
  · cases he

def evRange (P : Program) (H : Tr AObj) (nx : Nat) (t : TypeId) (x : At) : Option (V × Tr AObj × Nat) :=
  match P.underlying t, x with
  | some (.map _ _), .map b => match H.get b with
    | some (.map _ _) => some (.one (.ptr nx 0), H.put (some (.mit b)) nx, nx + 1)
    | _ => none
  | _, _ => none
theorem evRange_ok {P : Program} {H : Tr AObj} {nx : Nat} {t : TypeId} {x : At} {v : V} {H' : Tr AObj} {nx' : Nat} (he : evRange P H nx t x = some (v, H', nx')) :
    Dm H.get H'.get nx nx' ∧ ∀ {η : Env} {h : Hp} {w : World} {cx : Value}, Pre η h w H.get nx nx' → x.conc η = some cx →
      ∃ cv w' η', (Instr.range t cx).run P w = .ok cv w' ∧ v.conc η' = some cv ∧ Stp η h w H.get H'.get nx nx' η' w' := by
  unfold evRange at he
  split at he
  · rename_i kt et b hu
    split at he
    · rename_i es clock hb
      cases he
      refine ⟨dm_alloc _ _ _, fun p hx => ?_⟩
      rename_i η h w cx
      obtain ⟨B, hB, rfl⟩ := conc_map hx
      obtain ⟨B', co, hB', hw, ms, rfl, hms⟩ := p.rh.live b _ (p.ext b _ hb)
      obtain rfl : B = B' := Option.some.inj (hB.symm.trans hB')
      obtain ⟨hnb, _, _⟩ := p.fresh nx (Nat.le_refl _) (by omega)
      have hs := Stp.alloc (w' := w.alloc (.mapIter (some B.1) clock #[] clock)) p (.mapIter (some B.1) clock #[] clock) (.mit b) 0 ⟨rfl, rfl, rfl, rfl⟩ ⟨rfl, B, clock, clock, ((Env.le_set hnb _ _).blk b B hB).1, rfl⟩
      refine ⟨.pointer (some ⟨w.heap.size, 0, none⟩), _, _, ?_, by rw [one_conc]; simp [At.conc, Env.set_same, adr], hs.2⟩
      simp [Instr.range, run_und hu, getObj, Sem.run, hw]
    · cases he
  · cases he

def setE : List Ent → Nat → (Bool × List At) → (Bool × List At) → List Ent
  | [], _, _, _ => []
  | (_, _, n) :: l, 0, k, v => (k, v, n) :: l
  | e :: l, i + 1, k, v => e :: setE l i k v

theorem Ents.set {η : Env} {es : List Ent} {ms : List MapEntry} (h : Ents η es ms) {k v : Bool × List At} {ck cv : Value} (hk : comp η k.1 k.2 = some ck) (hv : comp η v.1 v.2 = some cv) :
    ∀ i, Ents η (setE es i k v) (ms.modify i fun e => { e with key := ck, val := cv }) := by
  induction h with
  | nil => intro i; cases i <;> simp [setE] <;> exact .nil
  | cons hk' hv' h ih =>
    intro i
    cases i with
    | zero => simp only [setE, List.modify_zero_cons]; exact .cons hk hv h
    | succ i => simp only [setE, List.modify_succ_cons]; exact .cons hk' hv' (ih i)
theorem Ents.snoc {η : Env} {es : List Ent} {ms : List MapEntry} (h : Ents η es ms) {k v : Bool × List At} {ck cv : Value} (hk : comp η k.1 k.2 = some ck) (hv : comp η v.1 v.2 = some cv) (n : Nat) :
    Ents η (es ++ [(k, v, n)]) (ms ++ [⟨ck, cv, n⟩]) := by
  induction h with
  | nil => exact .cons hk hv .nil
  | cons hk' hv' _ ih => exact .cons hk' hv' ih

def evMapUpdate (P : Program) (H : Tr AObj) (nx : Nat) (t : TypeId) (m : At) (k x : V) : Option (V × Tr AObj × Nat) :=
  match P.underlying t, m, k, x with
  | some (.map kt _), .map b, .c gk lk, .c gx lx => match H.get b with
    | some (.map es clock) => match evFind P kt (.c gk lk) es false with
      | some (some i) => match es[i]?, comp Env.void gk lk with
        | some (k0, _, _), some kv => match comp Env.void k0.1 k0.2 with
          | some k0v => match runA P (Instr.keyThatStays k0v kv) with
            | some k1v => match absC k1v with
              | some k1 => some (V.undef, H.put (some (.map (setE es i k1 (gx, lx)) clock)) b, nx)
              | none => none
            | none => none
          | none => none
        | _, _ => none
      | some none => some (V.undef, H.put (some (.map (es ++ [((gk, lk), (gx, lx), clock)]) (clock + 1))) b, nx)
      | none => none
    | _ => none
  | _, _, _, _ => none

theorem evMapUpdate_ok {P : Program} {H : Tr AObj} {nx : Nat} {t : TypeId} {m : At} {k x : V} {v : V} {H' : Tr AObj} {nx' : Nat} (he : evMapUpdate P H nx t m k x = some (v, H', nx')) :
    v = V.undef ∧ Dm H.get H'.get nx nx' ∧ ∀ {η : Env} {h : Hp} {w : World} {cm ck cx : Value}, Pre η h w H.get nx nx' → m.conc η = some cm → k.conc η = some ck → x.conc η = some cx →
      ∃ w', (Instr.mapUpdate t cm ck cx).run P w = .ok () w' ∧ Stp η h w H.get H'.get nx nx' η w' := by
  unfold evMapUpdate at he
  split at he
  · rename_i kt et b gk lk gx lx hu
    split at he
    · rename_i es clock hb
      have gen : ∀ {η : Env} {h : Hp} {w : World} {B : Nat × Nat} {ms ms' : Array MapEntry} {es' : List Ent} {c' : Nat}, Pre η h w H.get nx nx → η.blk b = some B → w.heap[B.1]? = some (.map ms clock) → Ents η es' ms'.toList →
          (setObj B.1 (.map ms' c')).run P w = .ok () { w with heap := w.heap.setIfInBounds B.1 (.map ms' c') } ∧ Stp η h w H.get (H.put (some (.map es' c')) b).get nx nx η { w with heap := w.heap.setIfInBounds B.1 (.map ms' c') } := by
        intro η h w B ms ms' es' c' p hB hw hE
        have hlt : B.1 < w.heap.size := (Array.getElem?_eq_some_iff.1 hw).1
        refine ⟨by simp [setObj, Sem.run, hw], (Stp.set (w' := { w with heap := w.heap.setIfInBounds B.1 (.map ms' c') }) p hb hB (co' := .map ms' c') (o' := .map es' c') ?_ ?_ rfl rfl rfl (by simp) ⟨ms', rfl, hE⟩).2⟩
        · simp [hlt]
        · intro j hj; simp [Array.getElem?_setIfInBounds_ne (Ne.symm hj)]
      split at he
      · rename_i i hf
        split at he
        · rename_i k0 v0 n0 kv hi hkv
          split at he
          · rename_i k0v hk0
            split at he
            · rename_i k1v hstay
              split at he
              · rename_i k1 hk1
                cases he
                refine ⟨rfl, dm_set hb _ _, fun p hm hk hx => ?_⟩
                rename_i η h w cm ck cx
                obtain ⟨B, hB, rfl⟩ := conc_map hm
                obtain ⟨B', co, hB', hw, ms, rfl, hms⟩ := p.rh.live b _ (p.ext b _ hb)
                obtain rfl : B = B' := Option.some.inj (hB.symm.trans hB')
                obtain ⟨h1, e, h2, h3⟩ := evFind_ok hf (w := w) hms hk
                obtain ⟨ck0, cv0, h4, h5, h6⟩ := hms.get i k0 v0 n0 hi
                rw [h2] at h4; cases h4
                have hkk := comp_mono (Env.void_le η) hkv
                have hk' : comp η gk lk = some ck := hk
                rw [hk'] at hkk; cases hkk
                have hk00 := comp_mono (Env.void_le η) hk0
                rw [h5] at hk00; cases hk00
                have hs := runA_run hstay w
                obtain ⟨g1, g2⟩ := gen (ms' := ms.modify i fun e => { e with key := k1v, val := cx }) (es' := setE es i k1 (gx, lx)) (c' := clock) p hB hw (by
                  rw [Array.toList_modify]; exact hms.set (k := k1) (v := (gx, lx)) (absC_conc η hk1) hx i)
                refine ⟨_, ?_, g2⟩
                have hge := h2
                simp only [Array.getElem?_toList] at hge
                have hgo : (getObj B.1).run P w = .ok (.map ms clock) w := by simp [getObj, Sem.run, hw]
                simp only [Instr.mapUpdate, Sem.run_bind, run_und hu, Result.andThen_ok, hgo, h1, h3, hge, Option.map_some, Option.getD_some, hs]
                exact g1
              · cases he
            · cases he
          · cases he
        · cases he
      · rename_i hf
        cases he
        refine ⟨rfl, dm_set hb _ _, fun p hm hk hx => ?_⟩
        rename_i η h w cm ck cx
        obtain ⟨B, hB, rfl⟩ := conc_map hm
        obtain ⟨B', co, hB', hw, ms, rfl, hms⟩ := p.rh.live b _ (p.ext b _ hb)
        obtain rfl : B = B' := Option.some.inj (hB.symm.trans hB')
        obtain ⟨h1, h3⟩ := evFind_ok hf (w := w) hms hk
        obtain ⟨g1, g2⟩ := gen (ms' := ms.push ⟨ck, cx, clock⟩) (es' := es ++ [((gk, lk), (gx, lx), clock)]) (c' := clock + 1) p hB hw (by
          rw [Array.toList_push]; exact hms.snoc (k := (gk, lk)) (v := (gx, lx)) hk hx clock)
        refine ⟨_, ?_, g2⟩
        have hgo : (getObj B.1).run P w = .ok (.map ms clock) w := by simp [getObj, Sem.run, hw]
        simp only [Instr.mapUpdate, Sem.run_bind, run_und hu, Result.andThen_ok, hgo, h1, h3]
        exact g1
      · cases he
    · cases he
  · cases he

end
end Go.Proofs.YtmnaddlniaklcaaGreatDoor.Ev
