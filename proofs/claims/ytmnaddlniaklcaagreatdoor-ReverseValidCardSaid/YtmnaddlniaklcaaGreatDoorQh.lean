/- A quick interpreter for the kernel: cuts: a call that is run by itself, from the part of the heap that it reaches, answers wherever it is met. -/
import Derived.Test.YtmnaddlniaklcaaGreatDoorQp9
namespace Go.Proofs.YtmnaddlniaklcaaGreatDoor.Ev
open Go
set_option linter.unusedSimpArgs false

/-- A call, and what it comes to: G: the blocks that it finds; U: those that it leaves otherwise, or new. -/
structure Cut where
  f : FuncId
  args : List FV
  nx : Nat
  G : List (Nat × AObj)
  v : FV
  U : List (Nat × AObj)
  nx' : Nat

noncomputable section
def ofG : List (Nat × AObj) → Tr AObj
  | [] => .nil
  | p :: l => (ofG l).put (some p.2) p.1
def atsB : List At → List At → Bool
  | [], [] => true
  | a :: l, b :: m => match atB a b with | true => atsB l m | false => false
  | _, _ => false
def tupsB : List (Bool × List At) → List (Bool × List At) → Bool
  | [], [] => true
  | a :: l, b :: m => match (a.1 == b.1) && atsB a.2 b.2 with | true => tupsB l m | false => false
  | _, _ => false
def fvB : FV → FV → Bool
  | .i a, .i b => Nat.beq a b
  | .u a, .u b => Nat.beq a b
  | .b a, .b b => a == b
  | .p a b, .p c d => Nat.beq a c && Nat.beq b d
  | .a x, .a y => atB x y
  | .v (.c g l), .v (.c g' l') => (g == g') && atsB l l'
  | .v (.tup l), .v (.tup l') => tupsB l l'
  | _, _ => false
def fvsB : List FV → List FV → Bool
  | [], [] => true
  | a :: l, b :: m => match fvB a b with | true => fvsB l m | false => false
  | _, _ => false
def inG (H : Tr AObj) : List (Nat × AObj) → Bool
  | [] => true
  | p :: l => match objB (H.get p.1) (some p.2) with | true => inG H l | false => false
def updU (H : Tr AObj) : List (Nat × AObj) → Tr AObj
  | [] => H
  | p :: l => (updU H l).put (some p.2) p.1
def domB (b : Nat) : List (Nat × AObj) → Bool
  | [] => false
  | p :: l => match Nat.beq p.1 b with | true => true | false => domB b l
def keepG (H : Tr AObj) (U : List (Nat × AObj)) : List (Nat × AObj) → Bool
  | [] => true
  | p :: l => match domB p.1 U || objB (H.get p.1) (some p.2) with | true => keepG H U l | false => false
def cutTry (c : Cut) (args : List FV) (H : Tr AObj) (nx : Nat) : CR :=
  match Nat.beq nx c.nx && (fvsB args c.args && inG H c.G) with
  | true => .ok c.v (updU H c.U) c.nx'
  | false => .no
def Cut.hook (c : Cut) : Hook := fun f args H nx => Bool.rec (motive := fun _ => CR) .no (cutTry c args H nx) (Nat.beq f c.f)
def orHook (a b : Hook) : Hook := fun f args H nx => hookK (a f args H nx) (b f args H nx)
def Cut.chk (P : Program) (hk : Hook) (n : Nat) (c : Cut) : Bool :=
  match (evQ P hk n).c c.f c.args (ofG c.G) c.nx with
  | .ok v H' nx' => fvB v c.v && (Nat.beq nx' c.nx' && (inG H' c.U && keepG H' c.U c.G))
  | .no => false
end

theorem atsB_ok : ∀ {l m : List At}, atsB l m = true → l = m
  | [], [], _ => rfl
  | [], _ :: _, h => by cases h
  | _ :: _, [], h => by cases h
  | a :: l, b :: m, h => by
    simp only [atsB] at h
    split at h
    · rename_i hab; rw [atB_ok hab, atsB_ok h]
    · cases h
theorem tupsB_ok : ∀ {l m : List (Bool × List At)}, tupsB l m = true → l = m
  | [], [], _ => rfl
  | [], _ :: _, h => by cases h
  | _ :: _, [], h => by cases h
  | (a, x) :: l, (b, y) :: m, h => by
    simp only [tupsB] at h
    split at h
    · rename_i hab
      rw [Bool.and_eq_true] at hab
      rw [eq_of_beq hab.1, atsB_ok hab.2, tupsB_ok h]
    · cases h
theorem fvB_ok {a b : FV} (h : fvB a b = true) : a = b := by
  unfold fvB at h
  split at h
  · rw [Nat.eq_of_beq_eq_true h]
  · rw [Nat.eq_of_beq_eq_true h]
  · rw [eq_of_beq h]
  · rw [Bool.and_eq_true] at h; rw [Nat.eq_of_beq_eq_true h.1, Nat.eq_of_beq_eq_true h.2]
  · rw [atB_ok h]
  · rw [Bool.and_eq_true] at h; rw [eq_of_beq h.1, atsB_ok h.2]
  · rw [tupsB_ok h]
  · cases h
theorem fvsB_ok : ∀ {l m : List FV}, fvsB l m = true → l = m
  | [], [], _ => rfl
  | [], _ :: _, h => by cases h
  | _ :: _, [], h => by cases h
  | a :: l, b :: m, h => by
    simp only [fvsB] at h
    split at h
    · rename_i hab; rw [fvB_ok hab, fvsB_ok h]
    · cases h
theorem inG_ok {H : Tr AObj} : ∀ {l : List (Nat × AObj)}, inG H l = true → ∀ p ∈ l, H.get p.1 = some p.2
  | [], _, p, hp => by cases hp
  | q :: l, h, p, hp => by
    simp only [inG] at h
    split at h
    · rename_i hq
      rcases List.mem_cons.1 hp with rfl | hp
      · exact objB_ok hq
      · exact inG_ok h p hp
    · cases h
theorem ofG_get : ∀ {l : List (Nat × AObj)} {b : Nat} {o : AObj}, (ofG l).get b = some o → (b, o) ∈ l
  | [], b, o, h => by simp [ofG, Tr.get_nil] at h
  | p :: l, b, o, h => by
    simp only [ofG, Tr.get_put] at h
    by_cases e : b = p.1
    · rw [if_pos e] at h; cases h; subst e; exact List.mem_cons_self
    · rw [if_neg e] at h; exact List.mem_cons_of_mem _ (ofG_get h)
theorem domB_ok {b : Nat} : ∀ {l : List (Nat × AObj)}, domB b l = true → ∃ o, (b, o) ∈ l
  | [], h => by cases h
  | p :: l, h => by
    simp only [domB] at h
    split at h
    · rename_i hb; have := Nat.eq_of_beq_eq_true hb; subst this; exact ⟨p.2, List.mem_cons_self⟩
    · obtain ⟨o, ho⟩ := domB_ok h; exact ⟨o, List.mem_cons_of_mem _ ho⟩
/-- A block behind the call: one that is written, or the old one. -/
theorem updU_get {H : Tr AObj} : ∀ (l : List (Nat × AObj)) (b : Nat), (∃ o, (b, o) ∈ l ∧ (updU H l).get b = some o) ∨ (domB b l = false ∧ (updU H l).get b = H.get b)
  | [], b => .inr ⟨rfl, rfl⟩
  | p :: l, b => by
    simp only [updU, Tr.get_put, domB]
    by_cases e : b = p.1
    · subst e; exact .inl ⟨p.2, List.mem_cons_self, by simp⟩
    · rw [if_neg e]
      have : Nat.beq p.1 b = false := by cases h : Nat.beq p.1 b with | false => rfl | true => exact absurd (Nat.eq_of_beq_eq_true h).symm e
      rw [this]
      rcases updU_get l b with ⟨o, h1, h2⟩ | h
      · exact .inl ⟨o, List.mem_cons_of_mem _ h1, h2⟩
      · exact .inr h
theorem keepG_ok {H : Tr AObj} {U : List (Nat × AObj)} : ∀ {l : List (Nat × AObj)}, keepG H U l = true → ∀ p ∈ l, domB p.1 U = true ∨ H.get p.1 = some p.2
  | [], _, p, hp => by cases hp
  | q :: l, h, p, hp => by
    simp only [keepG] at h
    split at h
    · rename_i hq
      rcases List.mem_cons.1 hp with rfl | hp
      · rw [Bool.or_eq_true] at hq
        rcases hq with hq | hq
        · exact .inl hq
        · exact .inr (objB_ok hq)
      · exact keepG_ok h p hp
    · cases h

theorem RH.sub {η : Env} {h h' : Hp} {w : World} (r : RH η h w) (e : ∀ b o, h' b = some o → h b = some o) : RH η h' w :=
  ⟨fun b o hb => r.live b o (e b o hb), fun b b' B B' hb hb' hB hB' eB => by
    have key : ∀ b, h' b ≠ none → h b ≠ none := fun b hb => by
      cases ho : h' b with
      | none => exact absurd ho hb
      | some o => rw [e b o ho]; simp
    exact r.inj b b' B B' (key b hb) (key b' hb') hB hB' eB⟩

/-- A call that reached only a part of the heap. -/
theorem CallOk.frame {P : Program} {f : FuncId} {xs : List V} {G : List (Nat × AObj)} {nx : Nat} {x : V} {G1 : Tr AObj} {nx' : Nat} {U : List (Nat × AObj)} (hc : CallOk P f xs (ofG G) nx x G1 nx') (hU : inG G1 U = true) (hK : keepG G1 U G = true)
    {H : Tr AObj} (hG : inG H G = true) : CallOk P f xs H nx x (updU H U) nx' := by
  obtain ⟨hfn, d, hcall⟩ := hc
  have hsub : ∀ b o, (ofG G).get b = some o → H.get b = some o := fun b o hb => inG_ok hG _ (ofG_get hb)
  have hu : ∀ b o, (b, o) ∈ U → G1.get b = some o := fun b o hm => inG_ok hU _ hm
  refine ⟨hfn, ⟨d.le, fun b hb => ?_⟩, fun η h w cargs p hvl hg => ?_⟩
  · rcases updU_get (H := H) U b with ⟨o, h1, h2⟩ | ⟨_, h2⟩
    · rcases d.dom b (by rw [hu b o h1]; simp) with h3 | h3
      · refine .inl ?_
        cases ho : (ofG G).get b with
        | none => exact absurd ho h3
        | some o' => rw [hsub b o' ho]; simp
      · exact .inr h3
    · rw [h2] at hb; exact .inl hb
  · have p' : Pre η h w (ofG G).get nx nx' := ⟨fun b o hb => p.ext b o (hsub b o hb), p.rh, p.fresh⟩
    refine (hcall η h w cargs p' hvl hg).mono ?_
    rintro e w' ⟨cv, η', rfl, hv, s⟩
    refine ⟨cv, η', rfl, hv, s.le, s.names, ?_, ?_, s.fr⟩
    all_goals
      have hfresh : ∀ b, nx ≤ b → b < nx' → H.get b = none := fun b h1 h2 => by
        cases ho : H.get b with
        | none => rfl
        | some o => have := p.ext b o ho; rw [p.rh.fresh (p.fresh b h1 h2).1] at this; cases this
      have hincl : ∀ b o, ovr h H.get (updU H U).get nx nx' b = some o → ovr h (ofG G).get G1.get nx nx' b = some o := by
        intro b o hb
        by_cases hin : H.get b ≠ none ∨ (nx ≤ b ∧ b < nx')
        · rw [ovr_in hin] at hb
          rcases updU_get (H := H) U b with ⟨o', h1, h2⟩ | ⟨hd, h2⟩
          · rw [h2] at hb; cases hb
            have hg1 := hu b o h1
            rw [ovr_in (d.dom b (by rw [hg1]; simp)), hg1]
          · rw [h2] at hb
            have hnf : ¬ (nx ≤ b ∧ b < nx') := fun hf => by rw [hfresh b hf.1 hf.2] at hb; cases hb
            cases hgb : (ofG G).get b with
            | none => rw [ovr_out (by intro hc; rcases hc with hc | hc; exact hc hgb; exact hnf hc)]; exact p.ext b o hb
            | some o2 =>
              have : H.get b = some o2 := hsub b o2 hgb
              rw [hb] at this; cases this
              rcases keepG_ok hK _ (ofG_get hgb) with h3 | h3
              · rw [hd] at h3; cases h3
              · rw [ovr_in (.inl (by rw [hgb]; simp))]; exact h3
        · rw [ovr_out hin] at hb
          rw [ovr_out (by
            intro hc
            rcases hc with hc | hc
            · cases hgb : (ofG G).get b with
              | none => exact hc hgb
              | some o2 => exact hin (.inl (by rw [hsub b o2 hgb]; simp))
            · exact hin (.inr hc))]
          exact hb
    · exact s.rh.sub hincl
    · rintro k ⟨b, B, hb, hB, rfl⟩
      refine s.img _ ⟨b, B, ?_, hB, rfl⟩
      cases ho : ovr h H.get (updU H U).get nx nx' b with
      | none => exact absurd ho hb
      | some o => rw [hincl b o ho]; simp

theorem cut_ok {P : Program} (hN : NoNum P) (hmix : P.follows .mixedOrders = true) {hk : Hook} (hh : HookOk P hk) {n : Nat} {c : Cut} (hchk : c.chk P hk n = true) : HookOk P c.hook := by
  intro f args H nx v H' nx' he xs hxs
  unfold Cut.hook at he
  cases hf : Nat.beq f c.f with
  | false => rw [hf] at he; cases he
  | true =>
    rw [hf] at he
    have he : cutTry c args H nx = .ok v H' nx' := he
    unfold cutTry at he
    split at he
    · rename_i hb
      cases he
      rw [Bool.and_eq_true, Bool.and_eq_true] at hb
      obtain ⟨h1, h2, h3⟩ := hb
      have e1 := Nat.eq_of_beq_eq_true hf
      have e2 := Nat.eq_of_beq_eq_true h1
      have e3 := fvsB_ok h2
      subst e1; subst e2; subst e3
      unfold Cut.chk at hchk
      cases hr : (evQ P hk n).c c.f c.args (ofG c.G) c.nx with
      | no => rw [hr] at hchk; cases hchk
      | ok v1 G1 nx1 =>
        rw [hr] at hchk
        simp only [Bool.and_eq_true] at hchk
        obtain ⟨g1, g2, g3, g4⟩ := hchk
        have e4 := fvB_ok g1
        have e5 := Nat.eq_of_beq_eq_true g2
        subst e4; subst e5
        obtain ⟨x, hx, hok⟩ := (evQ_ok hN hmix hh n).c _ _ _ _ _ _ _ hr xs hxs
        exact ⟨x, hx, hok.frame g3 g4 h3⟩
    · cases he
theorem orHook_ok {P : Program} {a b : Hook} (ha : HookOk P a) (hb : HookOk P b) : HookOk P (orHook a b) := by
  intro f args H nx v H' nx' he
  unfold orHook at he
  cases h : a f args H nx with
  | no => rw [h] at he; exact hb _ _ _ _ _ _ _ he
  | ok v1 H1 nx1 => rw [h] at he; cases he; exact ha _ _ _ _ _ _ _ h

end Go.Proofs.YtmnaddlniaklcaaGreatDoor.Ev
