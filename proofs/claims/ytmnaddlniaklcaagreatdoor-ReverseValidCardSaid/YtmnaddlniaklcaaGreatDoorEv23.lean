/- An abstract interpreter of the model's code, twenty-third part: statements; the interpreter is right. -/
import Derived.Test.YtmnaddlniaklcaaGreatDoorEv22
namespace Go.Proofs.YtmnaddlniaklcaaGreatDoor.Ev
open Go

/-- What goes past a statement that did not end normally. -/
theorem then_other {K : Act → World → Prop} {Q : Exit → Act → World → Prop} {ex : Ex} (hne : ex ≠ .normal) : Exit.then K Q (exC ex) = Q (exC ex) := by
  cases ex <;> first | exact absurd rfl hne | rfl

theorem evCond_ok {P : Program} {tm : Tr V} {c : Operand} {b : Bool} (h : evCond P tm c = some b) {η : Env} {A : Act} (ra : RA η tm A.tmps) (hg : η.glob P) : A.eval c = .bool b := by
  unfold evCond at h
  split at h
  · rename_i b' hb
    cases h
    have := evO_one ra hg hb
    simp only [At.conc] at this
    exact (Option.some.inj this).symm
  · cases h

/-- The range over a function, once its record is laid. -/
theorem range_ok {P : Program} (hN : NoNum P) {F : Fns} {m : Nat} (hF : FnsOk P F m) {g : Operand} {ps : Array Tmp} {assign body : Code} {nt l nx1 : Nat} {ro : Option Nat} {tm : Tr V} {ds1 : List Nat} {f : FuncId} {caps : List (Nat × Nat)} {H1 : Tr AObj} {ex : Ex} {tm' : Tr V} {H' : Tr AObj} {nx' : Nat} {ds' : List Nat}
    (hgv : evO P tm g = some (.one (.fn f [] caps))) (he : stepAfter F l nt ro tm ds1 (F.call f (.one (.yld l) :: capsV caps) H1 nx1) = some (ex, tm', H', nx', ds')) :
    Dm H1.get H'.get nx1 nx' ∧ ∀ (w : World) (A : Act) (cro : Option Nat) (n : Nat) (Q : Exit → Act → World → Prop),
      (∀ fn, ∃ (η1 : Env) (h1 : Hp) (w1 : World) (L : Nat × Nat) (mark : List Deferred), (Instr.enterLoop fn A.tmps ps assign body cro).run P w = .ok (L.1, mark) w1 ∧ Ctx P nt η1 h1 w1 H1 nx1 nx' tm ds1 ro ⟨A.tmps, mark ++ A.defers⟩ cro ∧ η1.blk l = some L ∧
        Ends η1 h1 w1 H1 H' nx1 nx' tm' ds' nt (Q (exC ex))) → (Code.rangeFunc g ps assign body).wpIn (fe cro) n P Q A w := by
  cases hc : F.call f (.one (.yld l) :: capsV caps) H1 nx1 with
  | none => rw [hc] at he; simp [stepAfter] at he
  | some r =>
    obtain ⟨v, H2, nx2⟩ := r
    rw [hc] at he
    obtain ⟨⟨fnn, hfn, hfb⟩, d2, hcall⟩ := hF.ops.call _ _ _ _ _ _ _ hc
    obtain ⟨d3, hafter⟩ := stepAfter_ok hF he
    refine ⟨d2.trans d3, fun w A cro n Q hall => ?_⟩
    refine wpIn_rangeFunc (fun fn _ => ?_)
    obtain ⟨η1, h1, w1, L, mark, henter, c, hL, hQ⟩ := hall fn
    have ra : RA η1 tm A.tmps := c.ra
    obtain ⟨⟨fs, cs⟩, ⟨g1, g2⟩, g3⟩ := conc_fn (evO_one (A := A) ra c.gl hgv)
    simp [fsts] at g1
    subst g1
    simp only at g2 g3
    refine ⟨L.1, mark, w1, { target := .fn (.func f) ⟨cs⟩, args := #[.func (.yield L.1) #[] #[]] }, w1, f, ⟨.func (.yield L.1) #[] #[] :: cs⟩, w1, henter, ?_, fun _ _ => trivial, ?_, fun h => by simp [fe] at h, ?_⟩
    · simp only [resolve, g3, Deferred.ofValue, Sem.run_pure]
      simp [Act.eval]
    · have e : (#[.func (.yield L.1) #[] #[]] : Array Value) ++ (⟨cs⟩ : Array Value) = ⟨.func (.yield L.1) #[] #[] :: cs⟩ := by apply Array.ext'; simp
      simp only [invoke, run_callFunc hN hfn hfb, e]
    · refine calls_fe ((hcall η1 h1 w1 (.func (.yield L.1) #[] #[] :: cs) (c.pre.less d3.le) ⟨by rw [one_conc]; simp [At.conc, hL], capsV_ok caps cs g2⟩ c.gl).mono ?_)
      rintro e w3 ⟨cv, η3, rfl, _, s3⟩
      have c3 := c.next d2 s3 (tm1 := tm) (ds1 := ds1) (A1 := ⟨A.tmps, mark ++ A.defers⟩) (c.ra.mono s3.le) c.sz (c.dr.mono s3.le)
      exact hafter η3 _ w3 _ cro n Q L c3 (s3.le.blk l L hL).1 (hQ.next d2 d3 s3)

theorem stepCode_ok {P : Program} (hN : NoNum P) (hmix : P.follows .mixedOrders = true) {F : Fns} {m : Nat} (hF : FnsOk P F m) {c : Code} {nt : Nat} {ro : Option Nat} {tm : Tr V} {H : Tr AObj} {nx : Nat} {ds : List Nat} {ex : Ex} {tm' : Tr V} {H' : Tr AObj} {nx' : Nat} {ds' : List Nat}
    (he : stepCode F P c nt ro tm H nx ds = some (ex, tm', H', nx', ds')) : CodeOk P (m + 1) c nt ro tm H nx ds ex tm' H' nx' ds' := by
  cases c with
  | skip =>
    simp only [stepCode] at he; cases he
    exact ⟨Dm.refl _ _, fun η h w A cro n Q c hQ => wpIn_skip (hQ η w A (Stp.refl c.pre.ext c.pre.rh) c.ra c.sz c.dr)⟩
  | exit id =>
    simp only [stepCode] at he; cases he
    exact ⟨Dm.refl _ _, fun η h w A cro n Q c hQ => wpIn_exit (hQ η w A (Stp.refl c.pre.ext c.pre.rh) c.ra c.sz c.dr)⟩
  | ret =>
    simp only [stepCode] at he; cases he
    exact ⟨Dm.refl _ _, fun η h w A cro n Q c hQ => wpIn_ret (hQ η w A (Stp.refl c.pre.ext c.pre.rh) c.ra c.sz c.dr)⟩
  | label l =>
    simp only [stepCode] at he; cases he
    exact ⟨Dm.refl _ _, fun η h w A cro n Q c hQ => wpIn_label (hQ η w A (Stp.refl c.pre.ext c.pre.rh) c.ra c.sz c.dr)⟩
  | goto l =>
    simp only [stepCode] at he; cases he
    exact ⟨Dm.refl _ _, fun η h w A cro n Q c hQ => wpIn_goto (hQ η w A (Stp.refl c.pre.ext c.pre.rh) c.ra c.sz c.dr)⟩
  | refuse why => simp [stepCode] at he
  | region id ops draw =>
    simp only [stepCode] at he
    cases draw with
    | true =>
      simp only at he
      split at he
      · rename_i tm1 H1 nx1 hd
        cases he
        obtain ⟨d, h1⟩ := evDraw_ok hN hmix hF.ops hd
        refine ⟨d, fun η h w A cro n Q c hQ => ?_⟩
        exact h1 η h w A cro n id Q c.pre c.ra c.sz c.gl (fun η' w' A' s ra sz hdf => hQ η' w' A' s ra sz (by rw [hdf]; exact c.dr.mono s.le))
      · cases he
    | false =>
      simp only at he
      split at he
      · rename_i tm1 H1 nx1 hd
        cases he
        obtain ⟨d, h1⟩ := evOps_ok hN hF.ops _ _ _ _ _ _ _ hd
        refine ⟨d, fun η h w A cro n Q c hQ => ?_⟩
        exact wpIn_region_list (h1 η h w A cro n Q c.pre c.ra c.sz c.gl (fun η' w' A' s ra sz hdf => hQ η' w' A' s ra sz (by rw [hdf]; exact c.dr.mono s.le)))
      · cases he
  | cond x a b =>
    simp only [stepCode] at he
    split at he
    · rename_i hx
      obtain ⟨d, h1⟩ := hF.code _ _ _ _ _ _ _ _ _ _ _ _ he
      exact ⟨d, fun η h w A cro n Q c hQ => wpIn_cond_true (evCond_ok hx c.ra c.gl) (h1 η h w A cro n Q c hQ).wp⟩
    · rename_i hx
      obtain ⟨d, h1⟩ := hF.code _ _ _ _ _ _ _ _ _ _ _ _ he
      exact ⟨d, fun η h w A cro n Q c hQ => wpIn_cond_false (evCond_ok hx c.ra c.gl) (h1 η h w A cro n Q c hQ).wp⟩
    · cases he
  | seq a b =>
    simp only [stepCode] at he
    split at he
    · rename_i tm1 H1 nx1 ds1 h1
      obtain ⟨d1, g1⟩ := hF.code _ _ _ _ _ _ _ _ _ _ _ _ h1
      obtain ⟨d2, g2⟩ := hF.code _ _ _ _ _ _ _ _ _ _ _ _ he
      refine ⟨d1.trans d2, fun η h w A cro n Q c hQ => ?_⟩
      refine wpIn_seq (g1 η h w A cro n _ (c.less d2.le) (fun η1 w1 A1 s1 ra1 sz1 dr1 => ?_)).wp
      exact (g2 η1 _ w1 A1 cro n Q (c.next d1 s1 ra1 sz1 dr1) (hQ.next d1 d2 s1)).wp
    · rename_i hne
      obtain ⟨d1, g1⟩ := hF.code _ _ _ _ _ _ _ _ _ _ _ _ he
      have hne' : ex ≠ .normal := fun e => by subst e; exact hne _ _ _ _ he
      refine ⟨d1, fun η h w A cro n Q c hQ => wpIn_seq (g1 η h w A cro n _ c (fun η1 w1 A1 s1 ra1 sz1 dr1 => ?_)).wp⟩
      rw [then_other hne']; exact hQ η1 w1 A1 s1 ra1 sz1 dr1
  | block id b =>
    simp only [stepCode] at he
    split at he
    · rename_i j tm1 H1 nx1 ds1 h1
      obtain ⟨d1, g1⟩ := hF.code _ _ _ _ _ _ _ _ _ _ _ _ h1
      split at he
      · rename_i hj
        cases he
        refine ⟨d1, fun η h w A cro n Q c hQ => wpIn_block (g1 η h w A cro n _ c (fun η1 w1 A1 s1 ra1 sz1 dr1 => ?_)).wp⟩
        show Exit.inBlock id Q (.exit j) A1 w1
        simp only [Exit.inBlock, Nat.eq_of_beq_eq_true hj, if_true]
        exact hQ η1 w1 A1 s1 ra1 sz1 dr1
      · rename_i hj
        cases he
        have hne : ¬ (j = id) := fun e => by subst e; simp at hj
        refine ⟨d1, fun η h w A cro n Q c hQ => wpIn_block (g1 η h w A cro n _ c (fun η1 w1 A1 s1 ra1 sz1 dr1 => ?_)).wp⟩
        show Exit.inBlock id Q (.exit j) A1 w1
        simp only [Exit.inBlock, hne, if_false]
        exact hQ η1 w1 A1 s1 ra1 sz1 dr1
    · rename_i hne
      obtain ⟨d1, g1⟩ := hF.code _ _ _ _ _ _ _ _ _ _ _ _ he
      refine ⟨d1, fun η h w A cro n Q c hQ => wpIn_block (g1 η h w A cro n _ c (fun η1 w1 A1 s1 ra1 sz1 dr1 => ?_)).wp⟩
      have := hQ η1 w1 A1 s1 ra1 sz1 dr1
      cases ex with
      | exit j => exact absurd he (hne _ _ _ _ _)
      | _ => exact this
  | loop b =>
    simp only [stepCode] at he
    split at he
    · rename_i tm1 H1 nx1 ds1 h1
      obtain ⟨d1, g1⟩ := hF.code _ _ _ _ _ _ _ _ _ _ _ _ h1
      obtain ⟨d2, g2⟩ := hF.code _ _ _ _ _ _ _ _ _ _ _ _ he
      refine ⟨d1.trans d2, fun η h w A cro n Q c hQ => ?_⟩
      refine (g1 η h w A cro n (Exit.then (Code.roundsIn (fe cro) n P b Q m) Q) (c.less d2.le) (fun η1 w1 A1 s1 ra1 sz1 dr1 => ?_)).wp
      exact g2 η1 _ w1 A1 cro n Q (c.next d1 s1 ra1 sz1 dr1) (hQ.next d1 d2 s1)
    · rename_i hne
      obtain ⟨d1, g1⟩ := hF.code _ _ _ _ _ _ _ _ _ _ _ _ he
      have hne' : ex ≠ .normal := fun e => by subst e; exact hne _ _ _ _ he
      refine ⟨d1, fun η h w A cro n Q c hQ => ?_⟩
      refine (g1 η h w A cro n (Exit.then (Code.roundsIn (fe cro) n P b Q m) Q) c (fun η1 w1 A1 s1 ra1 sz1 dr1 => ?_)).wp
      rw [then_other hne']; exact hQ η1 w1 A1 s1 ra1 sz1 dr1
  | scope b =>
    simp only [stepCode] at he
    obtain ⟨d, h1⟩ := hF.scope _ _ _ _ _ _ _ _ _ _ _ _ _ he
    exact ⟨d, fun η h w A cro n Q c hQ => wpIn_scope m (h1 η h w A cro n Q c hQ)⟩
  | rangeFunc g ps assign body =>
    simp only [stepCode] at he
    split at he
    · rename_i f caps hgv
      split at he
      · -- outermost
        obtain ⟨d, h1⟩ := range_ok (ps := ps) (assign := assign) (body := body) hN hF hgv he
        have da := dm_alloc H .dfr nx
        have db := dm_alloc (H.put (some .dfr) nx) (.loop .ready none tm nt ps assign body nx) (nx + 1)
        refine ⟨(da.trans db).trans d, fun η h w A cro n Q c hQ => h1 w A cro n Q (fun fn => ?_)⟩
        have hcro : cro = none := by cases cro with | none => rfl | some _ => exact c.ro.elim
        subst hcro
        have hle := d.le
        have hsa := (Stp.alloc (w' := w.alloc (.deferred (some []))) (c.pre.less (by omega)) (.deferred (some [])) .dfr 0 ⟨rfl, rfl, rfl, rfl⟩ rfl).2
        have pa := c.pre.next da hsa
        obtain ⟨hnb, _, _⟩ := pa.fresh (nx + 1) (Nat.le_refl _) (by omega)
        have hle2 := Env.le_set hnb ((w.alloc (.deferred (some []))).heap.size, 0) 0
        have hsb := (Stp.alloc (w' := (w.alloc (.deferred (some []))).alloc (.loop ⟨.ready, none, fn, A.tmps, ps, assign, body, w.heap.size⟩)) (pa.less (by omega)) (.loop ⟨.ready, none, fn, A.tmps, ps, assign, body, w.heap.size⟩) (.loop .ready none tm nt ps assign body nx) 0 ⟨rfl, rfl, rfl, rfl⟩
          ⟨fn, A.tmps, w.heap.size, rfl, (c.ra.mono hsa.le).mono hle2, c.sz, 0, (hle2.blk nx _ (Env.set_same _ _ _ _)).1⟩).2
        have hs := Stp.trans da db hsa hsb
        refine ⟨_, _, _, ((w.alloc (.deferred (some []))).heap.size, 0), [{ target := .collected w.heap.size, args := #[] }], ?_, c.next (da.trans db) hs (c.ra.mono hs.le) c.sz ?_, Env.set_same _ _ _ _, hQ.next (da.trans db) d hs⟩
        · rw [run_enterLoop_outer]; simp
        · exact ⟨⟨(w.heap.size, 0), (hle2.blk nx _ (Env.set_same _ _ _ _)).1, rfl⟩, c.dr.mono hs.le⟩
      · -- within a round
        rename_i l0
        split at he
        · rename_i st0 pe0 tm0 nt0 ps0 as0 bo0 df hl0
          obtain ⟨d, h1⟩ := range_ok (ps := ps) (assign := assign) (body := body) hN hF hgv he
          have da := dm_alloc H (.loop .ready none tm nt ps assign body df) nx
          refine ⟨da.trans d, fun η h w A cro n Q c hQ => h1 w A cro n Q (fun fn => ?_)⟩
          obtain ⟨L0, rfl, β0, hβ0⟩ : ∃ L0, cro = some L0 ∧ ∃ β, η.blk l0 = some (L0, β) := by
            cases hcr : cro with
            | none => have := c.ro; rw [hcr] at this; exact this.elim
            | some L0 => have := c.ro; rw [hcr] at this; exact ⟨L0, rfl, this⟩
          obtain ⟨f0, A0, D, hw0, _, _, βd, hdf⟩ := loop_rec c.pre hl0 hβ0
          obtain ⟨hnb, _, _⟩ := c.pre.fresh nx (Nat.le_refl _) (by have := d.le; omega)
          have hle2 := Env.le_set hnb (w.heap.size, 0) 0
          have hs := (Stp.alloc (w' := w.alloc (.loop ⟨.ready, none, fn, A.tmps, ps, assign, body, D⟩)) (c.pre.less (by have := d.le; omega)) (.loop ⟨.ready, none, fn, A.tmps, ps, assign, body, D⟩) (.loop .ready none tm nt ps assign body df) 0 ⟨rfl, rfl, rfl, rfl⟩
            ⟨fn, A.tmps, D, rfl, c.ra.mono hle2, c.sz, βd, (hle2.blk df _ hdf).1⟩).2
          refine ⟨_, _, _, (w.heap.size, 0), [], ?_, c.next da hs (c.ra.mono hs.le) c.sz (c.dr.mono hs.le), Env.set_same _ _ _ _, hQ.next da d hs⟩
          rw [run_enterLoop_inner hw0]
        · cases he
    · cases he

theorem stepScope_ok {P : Program} {F : Fns} {m : Nat} (hF : FnsOk P F m) {b r : Code} {nt : Nat} {ro : Option Nat} {tm : Tr V} {H : Tr AObj} {nx : Nat} {ds : List Nat} {ex : Ex} {tm' : Tr V} {H' : Tr AObj} {nx' : Nat} {ds' : List Nat}
    (he : stepScope F b r nt ro tm H nx ds = some (ex, tm', H', nx', ds')) : ScopeOk P (m + 1) b r nt ro tm H nx ds ex tm' H' nx' ds' := by
  unfold stepScope at he
  split at he
  · rename_i l tm1 H1 nx1 ds1 h1
    obtain ⟨d1, g1⟩ := hF.code _ _ _ _ _ _ _ _ _ _ _ _ h1
    split at he
    · rename_i r2 hf
      obtain ⟨d2, g2⟩ := hF.scope _ _ _ _ _ _ _ _ _ _ _ _ _ he
      refine ⟨d1.trans d2, fun η h w A cro n Q c hQ => (g1 η h w A cro n _ (c.less d2.le) (fun η1 w1 A1 s1 ra1 sz1 dr1 => ?_)).wp⟩
      simp only [exC, hf]
      exact g2 η1 _ w1 A1 cro n Q (c.next d1 s1 ra1 sz1 dr1) (hQ.next d1 d2 s1)
    · rename_i hf
      cases he
      refine ⟨d1, fun η h w A cro n Q c hQ => (g1 η h w A cro n _ c (fun η1 w1 A1 s1 ra1 sz1 dr1 => ?_)).wp⟩
      simp only [exC, hf]
      exact hQ η1 w1 A1 s1 ra1 sz1 dr1
  · rename_i hne
    obtain ⟨d1, g1⟩ := hF.code _ _ _ _ _ _ _ _ _ _ _ _ he
    refine ⟨d1, fun η h w A cro n Q c hQ => (g1 η h w A cro n _ c (fun η1 w1 A1 s1 ra1 sz1 dr1 => ?_)).wp⟩
    have := hQ η1 w1 A1 s1 ra1 sz1 dr1
    cases ex with
    | goto l => exact absurd he (hne _ _ _ _ _)
    | _ => exact this

/-- **The interpreter is right.** -/
theorem ev_ok {P : Program} (hN : NoNum P) (hmix : P.follows .mixedOrders = true) : ∀ n, FnsOk P (ev P n) n
  | 0 => by
    refine ⟨⟨?_, ?_⟩, ?_, ?_⟩
    · intro f args H nx v H' nx' h; cases h
    · intro f args H nx v H' nx' h; cases h
    · intro c nt ro tm H nx ds ex tm' H' nx' ds' h; cases h
    · intro b r nt ro tm H nx ds ex tm' H' nx' ds' h; cases h
  | n + 1 =>
    have ih := ev_ok hN hmix n
    ⟨⟨fun _ _ _ _ _ _ _ h => stepCall_ok ih h, fun _ _ _ _ _ _ _ h => stepRound_ok ih h⟩, fun _ _ _ _ _ _ _ _ _ _ _ _ h => stepCode_ok hN hmix ih h, fun _ _ _ _ _ _ _ _ _ _ _ _ _ h => stepScope_ok ih h⟩

end Go.Proofs.YtmnaddlniaklcaaGreatDoor.Ev
