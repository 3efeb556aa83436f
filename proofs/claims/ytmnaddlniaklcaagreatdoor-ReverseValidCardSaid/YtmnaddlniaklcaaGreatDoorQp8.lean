/- A quick interpreter for the kernel: proofs, eighth part: statements and calls; the quick interpreter is right. -/
import Derived.Test.YtmnaddlniaklcaaGreatDoorQp7
namespace Go.Proofs.YtmnaddlniaklcaaGreatDoor.Ev
open Go
set_option linter.unusedSimpArgs false

def CodeQ (P : Program) (c : Code) (nt : Nat) (f : Fm) (H : Tr AObj) (nx : Nat) (ds : List Nat) (ex : Ex) (f' : Fm) (H' : Tr AObj) (nx' : Nat) (ds' : List Nat) : Prop :=
  Dm H.get H'.get nx nx' ∧ ∀ η h w A n Q, Ctx P nt η h w H nx nx' f.tr ds none A none → Ends η h w H H' nx nx' f'.tr ds' nt (Q (exC ex)) → c.wpIn (fe none) n P Q A w

theorem Ctx.ro_none {P : Program} {nt : Nat} {η : Env} {h : Hp} {w : World} {H : Tr AObj} {nx nx' : Nat} {tm : Tr V} {ds : List Nat} {A : Act} {cro : Option Nat} (c : Ctx P nt η h w H nx nx' tm ds none A cro) : cro = none := by
  have := c.ro
  cases cro with
  | none => rfl
  | some _ => exact this.elim

theorem slowC_ok {P : Program} {Q : QF} {m : Nat} (hQ : QOk P Q m) {c : Code} {nt : Nat} {f : Fm} {H : Tr AObj} {nx : Nat} {ds : List Nat} {ex : Ex} {f' : Fm} {H' : Tr AObj} {nx' : Nat} {ds' : List Nat} (he : slowC c Q P nt f H nx ds = .ok ex f' H' nx' ds') : CodeQ P c nt f H nx ds ex f' H' nx' ds' := by
  unfold slowC at he
  cases hc : Q.f.code c nt none f.tr H nx ds with
  | none => rw [hc] at he; cases he
  | some r =>
    obtain ⟨ex1, tm1, H1, nx1, ds1⟩ := r
    rw [hc] at he
    cases he
    obtain ⟨d, h1⟩ := hQ.f.code _ _ _ _ _ _ _ _ _ _ _ _ hc
    exact ⟨d, fun η h w A n R cx hE => (h1 η h w A none n R cx (fun η' w' A' s ra sz dr => hE η' w' A' s (ra.congr (Fm.get_ofTr tm1)) sz dr)).wp⟩

theorem regK_ok {r : RR} {ds : List Nat} {ex : Ex} {f' : Fm} {H' : Tr AObj} {nx' : Nat} {ds' : List Nat} (h : regK r ds = .ok ex f' H' nx' ds') : r = .ok f' H' nx' ∧ ex = .normal ∧ ds' = ds := by
  cases r with
  | no => cases h
  | ok f H nx => cases h; exact ⟨rfl, rfl, rfl⟩

/-- What goes on behind a statement. -/
theorem thenK_ok {r : QR} {k : CK} {ex : Ex} {f' : Fm} {H' : Tr AObj} {nx' : Nat} {ds' : List Nat} (h : thenK r k = .ok ex f' H' nx' ds') :
    (∃ f1 H1 nx1 ds1, r = .ok .normal f1 H1 nx1 ds1 ∧ k f1 H1 nx1 ds1 = .ok ex f' H' nx' ds') ∨ (r = .ok ex f' H' nx' ds' ∧ ex ≠ .normal) := by
  cases r with
  | no => cases h
  | ok e f1 H1 nx1 ds1 =>
    cases e with
    | normal => exact .inl ⟨f1, H1, nx1, ds1, rfl, h⟩
    | exit i => cases h; exact .inr ⟨rfl, by simp⟩
    | goto l => cases h; exact .inr ⟨rfl, by simp⟩
    | ret => cases h; exact .inr ⟨rfl, by simp⟩

theorem qc_ok {P : Program} (hN : NoNum P) (hmix : P.follows .mixedOrders = true) {Q : QF} {m : Nat} (hQ : QOk P Q m) {nt b : Nat} (hb : b ≤ nt) : ∀ (c : Code), codeLt b c = true → ∀ (f : Fm) (H : Tr AObj) (nx : Nat) (ds : List Nat) (ex : Ex) (f' : Fm) (H' : Tr AObj) (nx' : Nat) (ds' : List Nat),
    qc c Q P nt f H nx ds = .ok ex f' H' nx' ds' → CodeQ P c nt f H nx ds ex f' H' nx' ds' := by
  intro c
  induction c with
  | skip =>
    intro _ f H nx ds ex f' H' nx' ds' he
    have he : QR.ok .normal f H nx ds = .ok ex f' H' nx' ds' := he
    cases he
    exact ⟨Dm.refl _ _, fun η h w A n R c hE => wpIn_skip (hE η w A (Stp.refl c.pre.ext c.pre.rh) c.ra c.sz c.dr)⟩
  | exit id =>
    intro _ f H nx ds ex f' H' nx' ds' he
    have he : QR.ok (.exit id) f H nx ds = .ok ex f' H' nx' ds' := he
    cases he
    exact ⟨Dm.refl _ _, fun η h w A n R c hE => wpIn_exit (hE η w A (Stp.refl c.pre.ext c.pre.rh) c.ra c.sz c.dr)⟩
  | ret =>
    intro _ f H nx ds ex f' H' nx' ds' he
    have he : QR.ok .ret f H nx ds = .ok ex f' H' nx' ds' := he
    cases he
    exact ⟨Dm.refl _ _, fun η h w A n R c hE => wpIn_ret (hE η w A (Stp.refl c.pre.ext c.pre.rh) c.ra c.sz c.dr)⟩
  | label l =>
    intro _ f H nx ds ex f' H' nx' ds' he
    have he : QR.ok .normal f H nx ds = .ok ex f' H' nx' ds' := he
    cases he
    exact ⟨Dm.refl _ _, fun η h w A n R c hE => wpIn_label (hE η w A (Stp.refl c.pre.ext c.pre.rh) c.ra c.sz c.dr)⟩
  | goto l =>
    intro _ f H nx ds ex f' H' nx' ds' he
    have he : QR.ok (.goto l) f H nx ds = .ok ex f' H' nx' ds' := he
    cases he
    exact ⟨Dm.refl _ _, fun η h w A n R c hE => wpIn_goto (hE η w A (Stp.refl c.pre.ext c.pre.rh) c.ra c.sz c.dr)⟩
  | refuse why =>
    intro _ f H nx ds ex f' H' nx' ds' he
    have he : QR.no = .ok ex f' H' nx' ds' := he
    cases he
  | region id ops draw =>
    intro hlt f H nx ds ex f' H' nx' ds' he
    have hlt : dstsLt b ops.toList = true := hlt
    cases draw with
    | false =>
      have he : regK (qOps (gds P ops ops.toList) Q P ops f H nx) ds = .ok ex f' H' nx' ds' := he
      obtain ⟨h1, rfl, rfl⟩ := regK_ok he
      obtain ⟨d, h2⟩ := qOps_ok hN hQ _ _ _ _ _ _ _ h1 hlt
      refine ⟨d, fun η h w A n R c hE => ?_⟩
      exact wpIn_region_list (h2 η h w A none n R c.pre c.ra (by rw [c.sz]; exact hb) c.gl (fun η' w' A' s ra sz hdf => hE η' w' A' s ra (sz.trans c.sz) (by rw [hdf]; exact c.dr.mono s.le)))
    | true =>
      have he : regK (qDraw Q P ops f H nx) ds = .ok ex f' H' nx' ds' := he
      obtain ⟨h1, rfl, rfl⟩ := regK_ok he
      have hlt' : dstsLt nt ops.toList = true := by
        have key : ∀ l, dstsLt b l = true → dstsLt nt l = true := by
          intro l
          induction l with
          | nil => intro _; rfl
          | cons o l ih =>
            intro h
            simp only [dstsLt] at h ⊢
            split at h
            · rename_i ho
              have : dstLt nt o.dst = true := by
                cases hd : o.dst with
                | none => rfl
                | some t => rw [hd] at ho; have := blt_lt (show Nat.blt t b = true from ho); show Nat.blt t nt = true; simp [blt_iff]; omega
              rw [this]; exact ih h
            · cases h
        exact key _ hlt
      obtain ⟨tm', h2, h3⟩ := qDraw_ok (nt := nt) h1 hlt'
      obtain ⟨d, h4⟩ := evDraw_ok hN hmix hQ.f.ops h2
      refine ⟨d, fun η h w A n R c hE => ?_⟩
      exact h4 η h w A none n id R c.pre c.ra c.sz c.gl (fun η' w' A' s ra sz hdf => hE η' w' A' s (ra.congr (fun t => (h3 t).symm)) sz (by rw [hdf]; exact c.dr.mono s.le))
  | seq a b' iha ihb =>
    intro hlt f H nx ds ex f' H' nx' ds' he
    have hlt : (codeLt b a && codeLt b b') = true := hlt
    rw [Bool.and_eq_true] at hlt
    have he : thenK (qc a Q P nt f H nx ds) (qc b' Q P nt) = .ok ex f' H' nx' ds' := he
    rcases thenK_ok he with ⟨f1, H1, nx1, ds1, h1, h2⟩ | ⟨h1, hne⟩
    · obtain ⟨d1, g1⟩ := iha hlt.1 _ _ _ _ _ _ _ _ _ h1
      obtain ⟨d2, g2⟩ := ihb hlt.2 _ _ _ _ _ _ _ _ _ h2
      refine ⟨d1.trans d2, fun η h w A n R c hE => wpIn_seq (g1 η h w A n _ (c.less d2.le) (fun η1 w1 A1 s1 ra1 sz1 dr1 => ?_))⟩
      exact g2 η1 _ w1 A1 n R (c.next d1 s1 ra1 sz1 dr1) (hE.next d1 d2 s1)
    · obtain ⟨d1, g1⟩ := iha hlt.1 _ _ _ _ _ _ _ _ _ h1
      refine ⟨d1, fun η h w A n R c hE => wpIn_seq (g1 η h w A n _ c (fun η1 w1 A1 s1 ra1 sz1 dr1 => ?_))⟩
      rw [then_other hne]; exact hE η1 w1 A1 s1 ra1 sz1 dr1
  | cond x a b' iha ihb =>
    intro hlt f H nx ds ex f' H' nx' ds' he
    have hlt : (codeLt b a && codeLt b b') = true := hlt
    rw [Bool.and_eq_true] at hlt
    have he : condK ((opd P x).get f) (qc a Q P nt) (qc b' Q P nt) f H nx ds = .ok ex f' H' nx' ds' := he
    have hx := opd_toV P f x
    generalize (opd P x).get f = u at he hx
    cases u <;> try (cases he; done)
    rename_i t
    simp only [FV.toV] at hx
    have hc : evCond P f.tr x = some t := by simp only [evCond, ← hx]
    cases t with
    | true =>
      obtain ⟨d, h1⟩ := iha hlt.1 _ _ _ _ _ _ _ _ _ he
      exact ⟨d, fun η h w A n R c hE => wpIn_cond_true (evCond_ok hc c.ra c.gl) (h1 η h w A n R c hE)⟩
    | false =>
      obtain ⟨d, h1⟩ := ihb hlt.2 _ _ _ _ _ _ _ _ _ he
      exact ⟨d, fun η h w A n R c hE => wpIn_cond_false (evCond_ok hc c.ra c.gl) (h1 η h w A n R c hE)⟩
  | block id b' ih =>
    intro hlt f H nx ds ex f' H' nx' ds' he
    have hlt : codeLt b b' = true := hlt
    have he : blockK (qc b' Q P nt f H nx ds) id = .ok ex f' H' nx' ds' := he
    cases hr : qc b' Q P nt f H nx ds with
    | no => rw [hr] at he; cases he
    | ok e f1 H1 nx1 ds1 =>
      rw [hr] at he
      obtain ⟨d1, g1⟩ := ih hlt _ _ _ _ _ _ _ _ _ hr
      cases e with
      | normal =>
        cases he
        exact ⟨d1, fun η h w A n R c hE => wpIn_block (g1 η h w A n _ c (fun η1 w1 A1 s1 ra1 sz1 dr1 => hE η1 w1 A1 s1 ra1 sz1 dr1))⟩
      | goto l =>
        cases he
        exact ⟨d1, fun η h w A n R c hE => wpIn_block (g1 η h w A n _ c (fun η1 w1 A1 s1 ra1 sz1 dr1 => hE η1 w1 A1 s1 ra1 sz1 dr1))⟩
      | ret =>
        cases he
        exact ⟨d1, fun η h w A n R c hE => wpIn_block (g1 η h w A n _ c (fun η1 w1 A1 s1 ra1 sz1 dr1 => hE η1 w1 A1 s1 ra1 sz1 dr1))⟩
      | exit j =>
        have he : (Bool.rec (motive := fun _ => QR) (.ok (.exit j) f1 H1 nx1 ds1) (.ok .normal f1 H1 nx1 ds1) (Nat.beq j id)) = .ok ex f' H' nx' ds' := he
        cases hj : Nat.beq j id with
        | true =>
          rw [hj] at he
          cases he
          refine ⟨d1, fun η h w A n R c hE => wpIn_block (g1 η h w A n _ c (fun η1 w1 A1 s1 ra1 sz1 dr1 => ?_))⟩
          show Exit.inBlock id R (.exit j) A1 w1
          simp only [Exit.inBlock, Nat.eq_of_beq_eq_true hj, if_true]
          exact hE η1 w1 A1 s1 ra1 sz1 dr1
        | false =>
          rw [hj] at he
          cases he
          have hne : ¬ (j = id) := fun e => by subst e; simp at hj
          refine ⟨d1, fun η h w A n R c hE => wpIn_block (g1 η h w A n _ c (fun η1 w1 A1 s1 ra1 sz1 dr1 => ?_))⟩
          show Exit.inBlock id R (.exit j) A1 w1
          simp only [Exit.inBlock, hne, if_false]
          exact hE η1 w1 A1 s1 ra1 sz1 dr1
  | loop b' ih =>
    intro hlt f H nx ds ex f' H' nx' ds' he
    have hlt : codeLt b b' = true := hlt
    have he : loopN (qc b' Q P nt) 1000000 f H nx ds = .ok ex f' H' nx' ds' := he
    have key : ∀ (k : Nat) (f : Fm) (H : Tr AObj) (nx : Nat) (ds : List Nat), loopN (qc b' Q P nt) k f H nx ds = .ok ex f' H' nx' ds' →
        Dm H.get H'.get nx nx' ∧ ∀ η h w A n R, Ctx P nt η h w H nx nx' f.tr ds none A none → Ends η h w H H' nx nx' f'.tr ds' nt (R (exC ex)) → Code.roundsIn (fe none) n P b' R k A w := by
      intro k
      induction k with
      | zero => intro f H nx ds h; cases h
      | succ k ihk =>
        intro f H nx ds h
        have h : thenK (qc b' Q P nt f H nx ds) (againK (loopN (qc b' Q P nt) k)) = .ok ex f' H' nx' ds' := h
        rcases thenK_ok h with ⟨f1, H1, nx1, ds1, h1, h2⟩ | ⟨h1, hne⟩
        · obtain ⟨d1, g1⟩ := ih hlt _ _ _ _ _ _ _ _ _ h1
          obtain ⟨d2, g2⟩ := ihk _ _ _ _ h2
          refine ⟨d1.trans d2, fun η h w A n R c hE => ?_⟩
          refine g1 η h w A n (Exit.then (Code.roundsIn (fe none) n P b' R k) R) (c.less d2.le) (fun η1 w1 A1 s1 ra1 sz1 dr1 => ?_)
          exact g2 η1 _ w1 A1 n R (c.next d1 s1 ra1 sz1 dr1) (hE.next d1 d2 s1)
        · obtain ⟨d1, g1⟩ := ih hlt _ _ _ _ _ _ _ _ _ h1
          refine ⟨d1, fun η h w A n R c hE => ?_⟩
          refine g1 η h w A n (Exit.then (Code.roundsIn (fe none) n P b' R k) R) c (fun η1 w1 A1 s1 ra1 sz1 dr1 => ?_)
          rw [then_other hne]; exact hE η1 w1 A1 s1 ra1 sz1 dr1
    obtain ⟨d, h1⟩ := key _ _ _ _ _ he
    exact ⟨d, fun η h w A n R c hE => wpIn_loop_rounds 1000000 (h1 η h w A n R c hE)⟩
  | scope b' _ => intro _ f H nx ds ex f' H' nx' ds' he; exact slowC_ok hQ he
  | rangeFunc g ps as bo _ _ => intro _ f H nx ds ex f' H' nx' ds' he; exact slowC_ok hQ he

end Go.Proofs.YtmnaddlniaklcaaGreatDoor.Ev
