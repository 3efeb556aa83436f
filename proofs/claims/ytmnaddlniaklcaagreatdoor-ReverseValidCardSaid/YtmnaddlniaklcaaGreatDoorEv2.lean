/- An abstract interpreter of the model's code, second part: the abstract heap, and what it says of a world. -/
import Derived.Test.YtmnaddlniaklcaaGreatDoorEv1
namespace Go.Proofs.YtmnaddlniaklcaaGreatDoor.Ev
open Go

abbrev Ent := (Bool × List At) × (Bool × List At) × Nat

inductive AObj where
  /-- a row of n cells -/
  | cells (E n : Nat) (t : Tr At)
  /-- a row that append made: its first n cells; s cells an element; how many elements there are is drawn -/
  | lcells (E n s : Nat) (t : Tr At)
  | map (es : List Ent) (clock : Nat)
  | loop (st : LoopState) (pe : Option Code) (tm : Tr V) (nt : Nat) (ps : Array Tmp) (assign body : Code) (df : Nat)
  | dfr
  /-- an iterator over a map, ahead of its first step -/
  | mit (m : Nat)
  deriving Inhabited

def Cells (η : Env) (β n : Nat) (t : Tr At) (C : Array Value) : Prop :=
  ∀ i, i < n → ∃ a v, t.get i = some a ∧ a.conc η = some v ∧ C[β + i]? = some v

inductive Ents (η : Env) : List Ent → List MapEntry → Prop where
  | nil : Ents η [] []
  | cons {k v : Bool × List At} {born : Nat} {ck cv : Value} {es : List Ent} {ms : List MapEntry} (hk : comp η k.1 k.2 = some ck) (hv : comp η v.1 v.2 = some cv)
      (h : Ents η es ms) : Ents η ((k, v, born) :: es) (⟨ck, cv, born⟩ :: ms)

def AObj.Rel (η : Env) (b : Nat) (B : Nat × Nat) (co : Obj) : AObj → Prop
  | .cells E n t => ∃ C, co = .cells C E (0, 0) ∧ B.2 = 0 ∧ C.size = n ∧ Cells η 0 n t C
  | .lcells E n s t => ∃ C, co = .cells C E (0, 0) ∧ B.2 + η.cap b * s = C.size ∧ n ≤ η.cap b * s ∧ 0 < s ∧ Cells η B.2 n t C
  | .map es clock => ∃ ms, co = .map ms clock ∧ Ents η es ms.toList
  | .loop st pe tm nt ps assign body df => ∃ f A D, co = .loop ⟨st, pe, f, A, ps, assign, body, D⟩ ∧ RA η tm A ∧ A.size = nt ∧ ∃ β, η.blk df = some (D, β)
  | .dfr => co = .deferred (some [])
  | .mit m => B.2 = 0 ∧ ∃ M since stepped, η.blk m = some M ∧ co = .mapIter (some M.1) since #[] stepped

theorem Cells.mono {η η' : Env} (hl : η.le η') {β n : Nat} {t : Tr At} {C : Array Value} (h : Cells η β n t C) : Cells η' β n t C := fun i hi => by
  obtain ⟨a, v, h1, h2, h3⟩ := h i hi
  exact ⟨a, v, h1, At.conc_mono hl h2, h3⟩

theorem Ents.mono {η η' : Env} (hl : η.le η') {es : List Ent} {ms : List MapEntry} (h : Ents η es ms) : Ents η' es ms := by
  induction h with
  | nil => exact .nil
  | cons hk hv _ ih => exact .cons (comp_mono hl hk) (comp_mono hl hv) ih

theorem AObj.Rel.mono {η η' : Env} (hl : η.le η') {b : Nat} {B : Nat × Nat} {co : Obj} {o : AObj} (hb : η.blk b = some B) (h : o.Rel η b B co) : o.Rel η' b B co := by
  cases o with
  | cells E n t => obtain ⟨C, h1, h2, h3, h4⟩ := h; exact ⟨C, h1, h2, h3, h4.mono hl⟩
  | lcells E n s t => obtain ⟨C, h1, h2, h3, h4, h5⟩ := h; have := (hl.blk b B hb).2; exact ⟨C, h1, by rw [this]; exact h2, by rw [this]; exact h3, h4, h5.mono hl⟩
  | map es clock => obtain ⟨ms, h1, h2⟩ := h; exact ⟨ms, h1, h2.mono hl⟩
  | loop st pe tm nt ps assign body df => obtain ⟨f, A, D, h1, h2, h3, β, h4⟩ := h; exact ⟨f, A, D, h1, h2.mono hl, h3, β, (hl.blk df _ h4).1⟩
  | dfr => exact h
  | mit m => obtain ⟨h0, M, s, t, h1, h2⟩ := h; exact ⟨h0, M, s, t, (hl.blk m _ h1).1, h2⟩

abbrev Hp := Nat → Option AObj

structure RH (η : Env) (h : Hp) (w : World) : Prop where
  live : ∀ b o, h b = some o → ∃ B co, η.blk b = some B ∧ w.heap[B.1]? = some co ∧ o.Rel η b B co
  inj : ∀ b b' B B', h b ≠ none → h b' ≠ none → η.blk b = some B → η.blk b' = some B' → B.1 = B'.1 → b = b'

def Img (η : Env) (h : Hp) (k : Nat) : Prop := ∃ b B, h b ≠ none ∧ η.blk b = some B ∧ B.1 = k

/-- Only the blocks that the abstract heap names may have changed. -/
structure Fr (η : Env) (h : Hp) (w w' : World) : Prop where
  os : w'.os = w.os
  tape : w'.tape = w.tape
  output : w'.output = w.output
  size : w.heap.size ≤ w'.heap.size
  keep : ∀ k, k < w.heap.size → ¬ Img η h k → w'.heap[k]? = w.heap[k]?

/-- The whole heap h behind a step that saw the part H and made H' of it. -/
noncomputable def ovr (h H H' : Hp) (nx nx' : Nat) : Hp := fun b => by
  classical exact if H b ≠ none ∨ (nx ≤ b ∧ b < nx') then H' b else h b

/-- What the interpreter itself guarantees. -/
structure Dm (H H' : Hp) (nx nx' : Nat) : Prop where
  le : nx ≤ nx'
  dom : ∀ b, H' b ≠ none → H b ≠ none ∨ (nx ≤ b ∧ b < nx')

structure Pre (η : Env) (h : Hp) (w : World) (H : Hp) (nx nx' : Nat) : Prop where
  ext : ∀ b o, H b = some o → h b = some o
  rh : RH η h w
  fresh : ∀ b, nx ≤ b → b < nx' → η.blk b = none ∧ η.unk b = none ∧ η.em b = none

structure Stp (η : Env) (h : Hp) (w : World) (H H' : Hp) (nx nx' : Nat) (η' : Env) (w' : World) : Prop where
  le : η.le η'
  names : ∀ b, ¬ (nx ≤ b ∧ b < nx') → η'.blk b = η.blk b ∧ η'.unk b = η.unk b ∧ η'.em b = η.em b
  rh : RH η' (ovr h H H' nx nx') w'
  img : ∀ k, Img η' (ovr h H H' nx nx') k → Img η h k ∨ w.heap.size ≤ k
  fr : Fr η h w w'

theorem Dm.refl (H : Hp) (nx : Nat) : Dm H H nx nx := ⟨Nat.le_refl _, fun _ h => .inl h⟩
theorem Dm.trans {H H1 H2 : Hp} {nx nx1 nx2 : Nat} (h : Dm H H1 nx nx1) (k : Dm H1 H2 nx1 nx2) : Dm H H2 nx nx2 :=
  ⟨Nat.le_trans h.le k.le, fun b hb => by
    rcases k.dom b hb with h1 | h1
    · rcases h.dom b h1 with h2 | h2
      · exact .inl h2
      · exact .inr ⟨h2.1, by have := k.le; omega⟩
    · exact .inr ⟨by have := h.le; omega, h1.2⟩⟩

theorem ovr_in {h H H' : Hp} {nx nx' b : Nat} (hb : H b ≠ none ∨ (nx ≤ b ∧ b < nx')) : ovr h H H' nx nx' b = H' b := by unfold ovr; exact if_pos hb
theorem ovr_out {h H H' : Hp} {nx nx' b : Nat} (hb : ¬ (H b ≠ none ∨ (nx ≤ b ∧ b < nx'))) : ovr h H H' nx nx' b = h b := by unfold ovr; exact if_neg hb

theorem ovr_same {h H : Hp} {nx : Nat} (ext : ∀ b o, H b = some o → h b = some o) : ovr h H H nx nx = h := by
  funext b
  by_cases hb : H b ≠ none ∨ (nx ≤ b ∧ b < nx)
  · rw [ovr_in hb]
    rcases hb with hb | hb
    · cases ho : H b with
      | none => exact absurd ho hb
      | some o => exact (ext b o ho).symm
    · omega
  · rw [ovr_out hb]

theorem ovr_ext {h H H' : Hp} {nx nx' : Nat} (d : Dm H H' nx nx') : ∀ b o, H' b = some o → ovr h H H' nx nx' b = some o := fun b o ho => by
  rw [ovr_in (d.dom b (by rw [ho]; simp)), ho]

theorem ovr_trans {h H H1 H2 : Hp} {nx nx1 nx2 : Nat} (d : Dm H H1 nx nx1) (d' : Dm H1 H2 nx1 nx2) :
    ovr (ovr h H H1 nx nx1) H1 H2 nx1 nx2 = ovr h H H2 nx nx2 := by
  funext b
  have hle := d.le
  have hle' := d'.le
  by_cases h1 : H1 b ≠ none ∨ (nx1 ≤ b ∧ b < nx2)
  · rw [ovr_in h1, ovr_in]
    rcases h1 with h1 | h1
    · rcases d.dom b h1 with h2 | h2
      · exact .inl h2
      · exact .inr (by omega)
    · exact .inr (by omega)
  · rw [ovr_out h1]
    by_cases h2 : H b ≠ none ∨ (nx ≤ b ∧ b < nx1)
    · rw [ovr_in h2, ovr_in (by rcases h2 with h2 | h2; exact .inl h2; exact .inr (by omega))]
      have e1 : H1 b = none := Classical.byContradiction fun hc => h1 (.inl hc)
      have e2 : H2 b = none := Classical.byContradiction fun hc => h1 (d'.dom b hc)
      rw [e1, e2]
    · rw [ovr_out h2, ovr_out]
      intro hc
      rcases hc with hc | hc
      · exact h2 (.inl hc)
      · by_cases hb : b < nx1
        · exact h2 (.inr ⟨hc.1, hb⟩)
        · exact h1 (.inr (by omega))

theorem Pre.next {η : Env} {h : Hp} {w : World} {H H1 : Hp} {nx nx1 nx2 : Nat} {η1 : Env} {w1 : World} (p : Pre η h w H nx nx2) (d : Dm H H1 nx nx1) (s : Stp η h w H H1 nx nx1 η1 w1) :
    Pre η1 (ovr h H H1 nx nx1) w1 H1 nx1 nx2 :=
  ⟨ovr_ext d, s.rh, fun b h1 h2 => by
    have := s.names b (by omega)
    have hf := p.fresh b (by have := d.le; omega) h2
    rw [this.1, this.2.1, this.2.2]; exact hf⟩

theorem Pre.less {η : Env} {h : Hp} {w : World} {H : Hp} {nx nx1 nx2 : Nat} (p : Pre η h w H nx nx2) (hle : nx1 ≤ nx2) : Pre η h w H nx nx1 :=
  ⟨p.ext, p.rh, fun b h1 h2 => p.fresh b h1 (by omega)⟩

theorem Fr.refl (η : Env) (h : Hp) (w : World) : Fr η h w w := ⟨rfl, rfl, rfl, Nat.le_refl _, fun _ _ _ => rfl⟩

theorem Stp.refl {η : Env} {h : Hp} {w : World} {H : Hp} {nx : Nat} (ext : ∀ b o, H b = some o → h b = some o) (rh : RH η h w) : Stp η h w H H nx nx η w :=
  ⟨.refl η, fun _ _ => ⟨rfl, rfl, rfl⟩, by rw [ovr_same ext]; exact rh, fun k hk => by rw [ovr_same ext] at hk; exact .inl hk, .refl _ _ _⟩

theorem Fr.trans {η η1 : Env} {h h1 : Hp} {w w1 w2 : World} (f : Fr η h w w1) (g : Fr η1 h1 w1 w2) (img : ∀ k, Img η1 h1 k → Img η h k ∨ w.heap.size ≤ k) : Fr η h w w2 :=
  ⟨g.os.trans f.os, g.tape.trans f.tape, g.output.trans f.output, Nat.le_trans f.size g.size, fun k hk hn =>
    (g.keep k (Nat.lt_of_lt_of_le hk f.size) (fun hi => by rcases img k hi with h2 | h2; exact hn h2; omega)).trans (f.keep k hk hn)⟩

theorem Stp.trans {η : Env} {h : Hp} {w : World} {H H1 H2 : Hp} {nx nx1 nx2 : Nat} {η1 η2 : Env} {w1 w2 : World} (d : Dm H H1 nx nx1) (d' : Dm H1 H2 nx1 nx2)
    (s : Stp η h w H H1 nx nx1 η1 w1) (t : Stp η1 (ovr h H H1 nx nx1) w1 H1 H2 nx1 nx2 η2 w2) : Stp η h w H H2 nx nx2 η2 w2 := by
  have e := ovr_trans (h := h) d d'
  refine ⟨s.le.trans t.le, fun b hb => ?_, ?_, fun k hk => ?_, s.fr.trans t.fr s.img⟩
  · have h1 := s.names b (by have := d'.le; omega)
    have h2 := t.names b (by have := d.le; omega)
    exact ⟨h2.1.trans h1.1, h2.2.1.trans h1.2.1, h2.2.2.trans h1.2.2⟩
  · rw [← e]; exact t.rh
  · rw [← e] at hk
    rcases t.img k hk with h1 | h1
    · exact s.img k h1
    · exact .inr (Nat.le_trans s.fr.size h1)

/-- The world differs in nothing but the number of draws. -/
def Quiet (w w' : World) : Prop := w'.heap = w.heap ∧ w'.os = w.os ∧ w'.output = w.output ∧ w'.tape = w.tape

theorem RH.quiet {η : Env} {h : Hp} {w w' : World} (r : RH η h w) (q : Quiet w w') : RH η h w' := ⟨fun b o hb => by rw [q.1]; exact r.live b o hb, r.inj⟩

theorem RH.fresh {η : Env} {h : Hp} {w : World} (r : RH η h w) {b : Nat} (hb : η.blk b = none) : h b = none := by
  cases ho : h b with
  | none => rfl
  | some o => obtain ⟨B, co, h1, _⟩ := r.live b o ho; rw [hb] at h1; cases h1

/-! ### A new block -/
theorem alloc_new (w : World) (o : Obj) : (w.alloc o).heap[w.heap.size]? = some o := by show (w.heap.push o)[w.heap.size]? = some o; simp
theorem alloc_old (w : World) (o : Obj) (k : Nat) (h : k < w.heap.size) : (w.alloc o).heap[k]? = w.heap[k]? := by
  have : k ≠ w.heap.size := by omega
  show (w.heap.push o)[k]? = _
  simp [Array.getElem?_push, this]
def Env.set (η : Env) (b : Nat) (B : Nat × Nat) (c : Nat) : Env := ⟨fun k => if k = b then some B else η.blk k, fun k => if k = b then c else η.cap k, η.unk, η.em⟩

theorem Env.le_set {η : Env} {b : Nat} (hb : η.blk b = none) (B : Nat × Nat) (c : Nat) : η.le (η.set b B c) :=
  ⟨fun k K hk => by
    have : k ≠ b := fun e => by rw [e, hb] at hk; cases hk
    simp [Env.set, this, hk], fun _ _ h => h, fun _ _ h => h⟩
theorem Env.set_same (η : Env) (b : Nat) (B : Nat × Nat) (c : Nat) : (η.set b B c).blk b = some B := by simp [Env.set]
theorem Env.cap_same (η : Env) (b : Nat) (B : Nat × Nat) (c : Nat) : (η.set b B c).cap b = c := by simp [Env.set]
theorem Env.set_other {η : Env} {b k : Nat} (h : k ≠ b) (B : Nat × Nat) (c : Nat) : (η.set b B c).blk k = η.blk k := by simp [Env.set, h]

/-- A block is made (its number is nx), the world's heap grows by it; some draws. -/
theorem Stp.alloc {η : Env} {h : Hp} {w w' : World} {H : Tr AObj} {nx : Nat} (p : Pre η h w H.get nx (nx + 1)) (co : Obj) (o : AObj) (c : Nat)
    (hq : Quiet (w.alloc co) w') (hr : o.Rel (η.set nx (w.heap.size, 0) c) nx (w.heap.size, 0) co) :
    Dm H.get (H.put (some o) nx).get nx (nx + 1) ∧ Stp η h w H.get (H.put (some o) nx).get nx (nx + 1) (η.set nx (w.heap.size, 0) c) w' := by
  obtain ⟨hnb, _, _⟩ := p.fresh nx (Nat.le_refl _) (by omega)
  have hle := Env.le_set hnb (w.heap.size, 0) c
  have hnew : (w.alloc co).heap[w.heap.size]? = some co := alloc_new w co
  have hold : ∀ k, k < w.heap.size → (w.alloc co).heap[k]? = w.heap[k]? := fun k hk => alloc_old w co k hk
  have hnone : H.get nx = none := by
    cases ho : H.get nx with
    | none => rfl
    | some o' => have := p.ext nx o' ho; rw [p.rh.fresh hnb] at this; cases this
  have hov : ovr h H.get (H.put (some o) nx).get nx (nx + 1) = fun b => if b = nx then some o else h b := by
    funext b
    by_cases e : b = nx
    · subst e; rw [ovr_in (.inr (by omega)), Tr.get_put_same]; simp
    · by_cases hb : H.get b ≠ none
      · rw [ovr_in (.inl hb), Tr.get_put_other _ _ e]; simp only [e, if_false]
        cases ho : H.get b with
        | none => exact absurd ho hb
        | some o' => exact (p.ext b o' ho).symm
      · rw [ovr_out (by intro hc; rcases hc with hc | hc; exact hb hc; omega)]; simp [e]
  have hlt : ∀ b B o', h b = some o' → η.blk b = some B → B.1 < w.heap.size := fun b B o' ho hB => by
    obtain ⟨B', co', h1, h2, _⟩ := p.rh.live b o' ho
    rw [hB] at h1; cases h1
    exact (Array.getElem?_eq_some_iff.1 h2).1
  refine ⟨⟨by omega, fun b hb => ?_⟩, hle, fun b hb => ?_, ?_, ?_, ?_⟩
  · by_cases e : b = nx
    · exact .inr (by omega)
    · rw [Tr.get_put_other _ _ e] at hb; exact .inl hb
  · exact ⟨Env.set_other (by omega) _ _, rfl, rfl⟩
  · rw [hov]
    refine RH.quiet ⟨fun b o' hb => ?_, fun b b' B B' hb hb' hB hB' e => ?_⟩ hq
    · by_cases e : b = nx
      · subst e; simp at hb; subst hb; exact ⟨_, co, Env.set_same _ _ _ _, hnew, hr⟩
      · simp only [e, if_false] at hb
        obtain ⟨B, co', h1, h2, h3⟩ := p.rh.live b o' hb
        exact ⟨B, co', (hle.blk b B h1).1, by rw [hold _ (hlt b B o' hb h1)]; exact h2, h3.mono hle h1⟩
    · by_cases e1 : b = nx
      · by_cases e2 : b' = nx
        · rw [e1, e2]
        · subst e1; simp only [e2, if_false] at hb'
          rw [Env.set_same] at hB; cases hB
          rw [Env.set_other e2] at hB'
          cases ho : h b' with
          | none => exact absurd ho hb'
          | some o' => have := hlt b' B' o' ho hB'; simp at e; omega
      · simp only [e1, if_false] at hb
        rw [Env.set_other e1] at hB
        by_cases e2 : b' = nx
        · subst e2; rw [Env.set_same] at hB'; cases hB'
          cases ho : h b with
          | none => exact absurd ho hb
          | some o' => have := hlt b B o' ho hB; simp at e; omega
        · simp only [e2, if_false] at hb'
          rw [Env.set_other e2] at hB'
          exact p.rh.inj b b' B B' hb hb' hB hB' e
  · rw [hov]
    rintro k ⟨b, B, hb, hB, rfl⟩
    by_cases e : b = nx
    · subst e; rw [Env.set_same] at hB; cases hB; exact .inr (Nat.le_refl _)
    · simp only [e, if_false] at hb; rw [Env.set_other e] at hB; exact .inl ⟨b, B, hb, hB, rfl⟩
  · refine ⟨hq.2.1, hq.2.2.2, hq.2.2.1, by rw [hq.1]; simp, fun k hk _ => by rw [hq.1]; exact hold k hk⟩

/-- A block that is there is changed. -/
theorem Stp.set {η : Env} {h : Hp} {w w' : World} {H : Tr AObj} {nx : Nat} (p : Pre η h w H.get nx nx) {b : Nat} {B : Nat × Nat} {o o' : AObj} {co' : Obj} (hb : H.get b = some o) (hB : η.blk b = some B)
    (hw : w'.heap[B.1]? = some co') (hrest : ∀ k, k ≠ B.1 → w'.heap[k]? = w.heap[k]?) (hos : w'.os = w.os) (htape : w'.tape = w.tape) (hout : w'.output = w.output) (hsize : w.heap.size ≤ w'.heap.size)
    (hr : o'.Rel η b B co') : Dm H.get (H.put (some o') b).get nx nx ∧ Stp η h w H.get (H.put (some o') b).get nx nx η w' := by
  have hhb := p.ext b o hb
  have hov : ovr h H.get (H.put (some o') b).get nx nx = fun k => if k = b then some o' else h k := by
    funext k
    by_cases e : k = b
    · subst e; rw [ovr_in (.inl (by rw [hb]; simp)), Tr.get_put_same]; simp
    · by_cases hk : H.get k ≠ none
      · rw [ovr_in (.inl hk), Tr.get_put_other _ _ e]; simp only [e, if_false]
        cases ho : H.get k with
        | none => exact absurd ho hk
        | some o2 => exact (p.ext k o2 ho).symm
      · rw [ovr_out (by intro hc; rcases hc with hc | hc; exact hk hc; omega)]; simp [e]
  have himg : ∀ k, (if k = b then some o' else h k) ≠ none → h k ≠ none := fun k hk => by
    by_cases e : k = b
    · subst e; rw [hhb]; simp
    · simpa only [e, if_false] using hk
  refine ⟨⟨Nat.le_refl _, fun k hk => ?_⟩, .refl η, fun _ _ => ⟨rfl, rfl, rfl⟩, ?_, ?_, ?_⟩
  · by_cases e : k = b
    · subst e; exact .inl (by rw [hb]; simp)
    · rw [Tr.get_put_other _ _ e] at hk; exact .inl hk
  · rw [hov]
    refine ⟨fun k o2 hk => ?_, fun k k' K K' hk hk' hK hK' e => p.rh.inj k k' K K' (himg k hk) (himg k' hk') hK hK' e⟩
    by_cases e : k = b
    · subst e; simp at hk; subst hk; exact ⟨B, co', hB, hw, hr⟩
    · simp only [e, if_false] at hk
      obtain ⟨K, co2, h1, h2, h3⟩ := p.rh.live k o2 hk
      refine ⟨K, co2, h1, ?_, h3⟩
      rw [hrest _ (fun e2 => e (p.rh.inj k b K B (by rw [hk]; simp) (by rw [hhb]; simp) h1 hB e2))]; exact h2
  · rw [hov]
    rintro k ⟨j, J, hj, hJ, rfl⟩
    exact .inl ⟨j, J, himg j hj, hJ, rfl⟩
  · exact ⟨hos, htape, hout, hsize, fun k _ hn => hrest k (fun e => hn ⟨b, B, by rw [hhb]; simp, hB, e.symm⟩)⟩

end Go.Proofs.YtmnaddlniaklcaaGreatDoor.Ev
