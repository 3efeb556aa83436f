/- An abstract interpreter of the model's code, twenty-second part: rounds and calls are right. -/
import Derived.Test.YtmnaddlniaklcaaGreatDoorEv21
namespace Go.Proofs.YtmnaddlniaklcaaGreatDoor.Ev
open Go

/-! ### Rounds -/
theorem putPs_ok {η : Env} {nt : Nat} : ∀ (ps : List Tmp) (vs : List V) (cs : List Value) (tm tm' : Tr V) (A : Array Value), putPs nt ps vs tm = some tm' → VL η vs cs → RA η tm A → A.size = nt →
    ps.length = cs.length ∧ RA η tm' ((ps.zip cs).foldl (fun t (p : Tmp × Value) => t.setIfInBounds p.1 p.2) A) ∧ ((ps.zip cs).foldl (fun t (p : Tmp × Value) => t.setIfInBounds p.1 p.2) A).size = nt := by
  intro ps
  induction ps with
  | nil =>
    intro vs cs tm tm' A h hv ra hn
    cases vs with
    | nil =>
      cases cs with
      | nil => simp [putPs] at h; subst h; exact ⟨rfl, ra, hn⟩
      | cons _ _ => exact hv.elim
    | cons _ _ => simp [putPs] at h
  | cons p ps ih =>
    intro vs cs tm tm' A h hv ra hn
    cases vs with
    | nil => simp [putPs] at h
    | cons v vs =>
      cases cs with
      | nil => exact hv.elim
      | cons c cs =>
        simp only [putPs] at h
        split at h
        · rename_i hlt
          have hp : p < A.size := by rw [hn]; exact blt_lt hlt
          obtain ⟨h1, h2, h3⟩ := ih vs cs _ tm' (A.setIfInBounds p c) h hv.2 (ra.put hp hv.1) (by simp [hn])
          exact ⟨by simp [h1], h2, h3⟩
        · cases h

theorem stepRound_ok {P : Program} {F : Fns} {m : Nat} (hF : FnsOk P F m) {l : Nat} {args : List V} {H : Tr AObj} {nx : Nat} {v : V} {H' : Tr AObj} {nx' : Nat} (he : stepRound F l args H nx = some (v, H', nx')) : RoundOk P l args H nx v H' nx' := by
  unfold stepRound at he
  split at he
  · rename_i st0 pe0 tm nt ps assign body df hl
    split at he
    · rename_i tm0 hps
      split at he
      · rename_i tm1 H1 nx1 hass
        split at he
        · rename_i pe1 tmL ntL psL assL bodyL dfL hl1
          split at he
          · rename_i H2 h2
            obtain ⟨d1, hA⟩ := hF.code _ _ _ _ _ _ _ _ _ _ _ _ hass
            have d2 := dm_loopSt h2 nx1
            -- the end of the round, whichever it is
            have key : ∀ (ex : Ex) (tm3 : Tr V) (H3 : Tr AObj) (nx3 : Nat) (st' : LoopState) (jump : Option Code) (H4 : Tr AObj), F.code body nt (some l) tm1 H2 nx1 [] = some (ex, tm3, H3, nx3, []) → loopSt H3 l st' jump = some H4 →
                (st' = if jump.isNone then .ready else .done) → (∀ (R : Ending → World → Prop) L A w, (∃ v w', (Instr.endRound L jump).run P w = .ok v w' ∧ R (.returned v) w') → roundPost P L R (exC ex) A w) →
                RoundOk P l args H nx (.one (.bool jump.isNone)) H4 nx3 := by
              intro ex tm3 H3 nx3 st' jump H4 hbody h4 hst' hpost
              obtain ⟨d3, hB⟩ := hF.code _ _ _ _ _ _ _ _ _ _ _ _ hbody
              have d4 := dm_loopSt h4 nx3
              refine ⟨((d1.trans d2).trans d3).trans d4, fun η h w cargs L p hvl hg hL => ?_⟩
              obtain ⟨f, A, D, hw, hra, hsz, _⟩ := loop_rec p hl hL
              obtain ⟨hlen, hra0, hsz0⟩ := putPs_ok ps.toList args cargs tm tm0 A hps hvl hra hsz
              refine ⟨f, (ps.toList.zip cargs).foldl (fun t (p : Tmp × Value) => t.setIfInBounds p.1 p.2) A, assign, body, ?_, fun n => ?_⟩
              · have hg' : (Instr.getLoop L.1).run P w = .ok ⟨st0, pe0, f, A, ps, assign, body, D⟩ w := by simp [Instr.getLoop, getObj, Sem.run, hw]
                have hs : ¬ ((⟨cargs⟩ : Array Value).size ≠ ps.size) := by
                  intro hc; apply hc; show cargs.length = ps.size; rw [← hlen]; simp
                have hz : (ps.zip ⟨cargs⟩).foldl (fun tmps (x : Tmp × Value) => tmps.setIfInBounds x.1 x.2) A = (ps.toList.zip cargs).foldl (fun t (p : Tmp × Value) => t.setIfInBounds p.1 p.2) A := by
                  rw [← Array.foldl_toList]; simp
                simp only [Instr.yield, Sem.run_bind, hg', Result.andThen_ok, if_neg hs, Sem.run_pure]
                rw [← hz]
              · refine roundIn_of_wpIn (F := fe none) trivial ?_
                have hro : RO η (some l) (some L.1) := ⟨L.2, hL⟩
                have hmono : nx1 ≤ nx3 := d3.le
                refine (hA η h w ⟨_, []⟩ (some L.1) n _ ⟨p.less hmono, hra0, hsz0, trivial, hg, hro⟩ (fun η1 w1 A1 s1 ra1 sz1 dr1 => ?_)).wp
                have p1 := p.next d1 s1
                have hL1 : η1.blk l = some L := (s1.le.blk l L hL).1
                obtain ⟨f1, A1', D1, hw1, _, _, _⟩ := loop_rec p1 hl1 hL1
                obtain ⟨r1, hr1, hset1, hstp1⟩ := loopSt_ok (P := P) (p1.less hmono) h2 hL1
                rw [hw1] at hr1; cases hr1
                refine ⟨{ w1 with heap := w1.heap.setIfInBounds L.1 (.loop ⟨.busy, pe1, f1, A1', psL, assL, bodyL, D1⟩) }, ?_, ?_⟩
                · have hg1 : (Instr.getLoop L.1).run P w1 = .ok ⟨.ready, pe1, f1, A1', psL, assL, bodyL, D1⟩ w1 := by simp [Instr.getLoop, getObj, Sem.run, hw1]
                  simp only [Instr.beginRound, Sem.run_bind, hg1, Result.andThen_ok, hset1, Sem.run_pure]
                · have s12 := Stp.trans d1 d2 s1 hstp1
                  have p2 : Pre η1 (ovr h H.get H2.get nx nx1) _ H2.get nx1 nx3 := p.next (d1.trans d2) s12
                  have hdr1 : A1.defers = [] := by cases hd : A1.defers with | nil => rfl | cons _ _ => rw [hd] at dr1; exact dr1.elim
                  refine (hB η1 _ _ A1 (some L.1) n _ ⟨p2, ra1, sz1, by rw [hdr1]; trivial, glob_mono hg s1.le, ⟨L.2, hL1⟩⟩ (fun η3 w3 A3 s3 ra3 sz3 dr3 => ?_)).wp
                  have s13 := Stp.trans (d1.trans d2) d3 s12 s3
                  have p3 : Pre η3 (ovr h H.get H3.get nx nx3) w3 H3.get nx3 nx3 := p.next ((d1.trans d2).trans d3) s13
                  have hL3 : η3.blk l = some L := (s3.le.blk l L hL1).1
                  obtain ⟨r3, hr3, hset3, hstp3⟩ := loopSt_ok (P := P) p3 h4 hL3
                  refine hpost _ _ _ _ ⟨.bool jump.isNone, _, ?_, .bool jump.isNone, η3, rfl, one_conc.2 rfl, Stp.trans ((d1.trans d2).trans d3) d4 s13 hstp3⟩
                  have hg3 : (Instr.getLoop L.1).run P w3 = .ok r3 w3 := by simp [Instr.getLoop, getObj, Sem.run, hr3]
                  rw [hst'] at hset3
                  simp only [Instr.endRound, Sem.run_bind, hg3, Result.andThen_ok, hset3, Sem.run_pure]
                  rw [hst']
            split at he
            · rename_i tm3 H3 nx3 hbody
              split at he
              · rename_i H4 h4
                cases he
                exact key .normal _ _ _ _ none _ hbody h4 rfl (fun R L A w h => h)
              · cases he
            · rename_i tm3 H3 nx3 hbody
              split at he
              · rename_i H4 h4
                cases he
                exact key .ret _ _ _ _ (some .ret) _ hbody h4 rfl (fun R L A w h => h)
              · cases he
            · rename_i id tm3 H3 nx3 hbody
              split at he
              · rename_i H4 h4
                cases he
                exact key (.exit id) _ _ _ _ (some (.exit id)) _ hbody h4 rfl (fun R L A w h => h)
              · cases he
            · rename_i t tm3 H3 nx3 hbody
              split at he
              · rename_i H4 h4
                cases he
                exact key (.goto t) _ _ _ _ (some (.goto t)) _ hbody h4 rfl (fun R L A w h => h)
              · cases he
            · cases he
          · cases he
        · cases he
      · cases he
    · cases he
  · cases he

/-! ### Leaving -/
theorem dropDs_ok {P : Program} {fn : Func} {nx : Nat} {R : Ending → World → Prop} {n : Nat} {tmps : Array Value} : ∀ (ds : List Nat) (H H' : Tr AObj) (xs : List Deferred), dropDs ds H = some H' →
    Dm H.get H'.get nx nx ∧ ∀ η h w, Pre η h w H.get nx nx → DR η ds xs → (∀ w', Stp η h w H.get H'.get nx nx η w' → ∃ v, (results fn tmps).run P w' = .ok v w' ∧ R (.returned v) w') → LeavesInM (fe none) n P fn tmps R xs .returning w := by
  intro ds
  induction ds with
  | nil =>
    intro H H' xs h
    simp [dropDs] at h; subst h
    refine ⟨Dm.refl _ _, fun η h w p dr hR => ?_⟩
    cases xs with
    | nil => exact hR w (Stp.refl p.ext p.rh)
    | cons _ _ => exact dr.elim
  | cons d ds ih =>
    intro H H' xs h
    simp only [dropDs] at h
    split at h
    · rename_i hd
      have d1 := dm_drop H d nx
      cases xs with
      | nil =>
        obtain ⟨d2, _⟩ := ih (H.put none d) H' [] h
        exact ⟨d1.trans d2, fun η h w p dr hR => dr.elim⟩
      | cons x xs =>
        obtain ⟨d2, hrec⟩ := ih (H.put none d) H' xs h
        refine ⟨d1.trans d2, fun η h w p dr hR => ?_⟩
        obtain ⟨⟨D, hD, rfl⟩, dr⟩ := dr
        obtain ⟨B, co, hB, hw, hrel⟩ := p.rh.live d _ (p.ext d _ hd)
        obtain rfl : D = B := Option.some.inj (hD.symm.trans hB)
        have hco : co = .deferred (some []) := hrel
        subst hco
        have hlose := Stp.lose (w' := { w with heap := w.heap.setIfInBounds D.1 (.deferred none) }) p hd hD (fun k hk => by simp [Array.getElem?_setIfInBounds_ne (Ne.symm hk)]) rfl rfl rfl (by simp)
        refine ⟨by simp, .inl ⟨D.1, _, rfl, ?_, hrec η _ _ (p.next d1 hlose) dr (fun w' s' => hR w' (Stp.trans d1 d2 hlose s'))⟩⟩
        simp [Instr.takeDeferred, getObj, setObj, Sem.run, hw]
    · cases h

theorem leave_ok {P : Program} {fn : Func} {tm : Tr V} {H : Tr AObj} {nx : Nat} {ds : List Nat} {v : V} {H' : Tr AObj} {nx' : Nat} (he : leave P fn tm H nx ds = some (v, H', nx')) :
    nx' = nx ∧ Dm H.get H'.get nx nx ∧ ∀ (η : Env) (h : Hp) (w : World) (A : Act) (n : Nat) (R : Ending → World → Prop), Pre η h w H.get nx nx → RA η tm A.tmps → DR η ds A.defers → (∀ cv w', v.conc η = some cv → Stp η h w H.get H'.get nx nx η w' → R (.returned cv) w') →
      LeavesInM (fe none) n P fn A.tmps R A.defers .returning w := by
  unfold leave at he
  split at he
  · rename_i H1 hd
    split at he
    · rename_i cs hcs
      cases he
      refine ⟨rfl, (dropDs_ok (P := P) (fn := fn) (nx := nx) (R := fun _ _ => True) (n := 0) (tmps := #[]) ds H H' [] hd).1, fun η h w A n R p ra dr hR => ?_⟩
      obtain ⟨d1, h1⟩ := dropDs_ok (P := P) (fn := fn) (nx := nx) (R := R) (n := n) (tmps := A.tmps) ds H H' A.defers hd
      refine h1 η h w p dr (fun w' s' => ?_)
      have p' := p.next d1 s'
      obtain ⟨cv, h2, h3⟩ := results_ok hcs p'.ext p'.rh ra
      exact ⟨cv, h3, hR cv w' h2 s'⟩
    · cases he
  · cases he

theorem tmOf_ok {η : Env} : ∀ (args : List V) (cargs : List Value), VL η args cargs → ∀ (i : Nat) (pre rest : List Value), pre.length = i → RA η (tmOf i args) ⟨pre ++ cargs ++ rest⟩ := by
  intro args
  induction args with
  | nil => intro cargs h i pre rest hp t v hv; simp [tmOf, Tr.get_nil] at hv
  | cons a args ih =>
    intro cargs h i pre rest hp
    cases cargs with
    | nil => exact h.elim
    | cons c cargs =>
      intro t v hv
      simp only [tmOf, Tr.get_put] at hv
      by_cases e : t = i
      · rw [if_pos e] at hv; cases hv
        subst e
        rw [h.1]
        simp [← hp]
      · rw [if_neg e] at hv
        have := ih cargs h.2 (i + 1) (pre ++ [c]) rest (by simp [hp]) t v hv
        simpa using this

theorem stepCall_ok {P : Program} {F : Fns} {m : Nat} (hF : FnsOk P F m) {f : FuncId} {args : List V} {H : Tr AObj} {nx : Nat} {v : V} {H' : Tr AObj} {nx' : Nat} (he : stepCall F P f args H nx = some (v, H', nx')) : CallOk P f args H nx v H' nx' := by
  unfold stepCall at he
  split at he
  · rename_i fn hf
    split at he
    · rename_i c hb
      have key : ∀ (ex : Ex) (tm : Tr V) (H1 : Tr AObj) (nx1 : Nat) (ds : List Nat), (ex = .normal ∨ ex = .ret) → F.code c (args.length + (fn.ntmps - args.length)) none (tmOf 0 args) H nx [] = some (ex, tm, H1, nx1, ds) → leave P fn tm H1 nx1 ds = some (v, H', nx') →
          CallOk P f args H nx v H' nx' := by
        intro ex tm H1 nx1 ds hex hcode hleave
        obtain ⟨d1, h1⟩ := hF.code _ _ _ _ _ _ _ _ _ _ _ _ hcode
        obtain ⟨rfl, d2, h2⟩ := leave_ok hleave
        refine ⟨⟨fn, hf, by rw [hb]; rfl⟩, d1.trans d2, fun η h w cargs p hvl hg => ?_⟩
        have hlen := hvl.length
        have hcalls : CallsIn (fe none) 0 P f ⟨cargs⟩ w (CallPost η h w H.get H'.get nx nx' v) := by
          refine callsIn_of_wp_marks hf hb trivial ?_ rfl
          refine (h1 η h w ⟨(⟨cargs⟩ : Array Value) ++ Array.replicate (fn.ntmps - (⟨cargs⟩ : Array Value).size) Go.undef, []⟩ none 0 _ ⟨p, ?_, ?_, trivial, hg, trivial⟩ (fun η1 w1 A1 s1 ra1 sz1 dr1 => ?_)).wp
          · have := tmOf_ok args cargs hvl 0 [] (List.replicate (fn.ntmps - cargs.length) Go.undef) rfl
            have e : (⟨cargs⟩ : Array Value) ++ Array.replicate (fn.ntmps - (⟨cargs⟩ : Array Value).size) Go.undef = ⟨[] ++ cargs ++ List.replicate (fn.ntmps - cargs.length) Go.undef⟩ := by
              apply Array.ext'; simp
            simp only
            rw [e]; exact this
          · simp; omega
          · have hl := h2 η1 _ w1 A1 0 (CallPost η h w H.get H'.get nx nx' v) (p.next d1 s1) ra1 dr1 (fun cv w' hv s' => ⟨cv, η1, rfl, hv, Stp.trans d1 d2 s1 s'⟩)
            rcases hex with rfl | rfl <;> exact hl
        exact callsIn_wide.1 (show CallsIn Fence.wide 0 P f ⟨cargs⟩ w _ from hcalls)
      split at he
      · rename_i tm H1 nx1 ds hcode; exact key .normal tm H1 nx1 ds (.inl rfl) hcode he
      · rename_i tm H1 nx1 ds hcode; exact key .ret tm H1 nx1 ds (.inr rfl) hcode he
      · cases he
    · cases he
  · cases he

end Go.Proofs.YtmnaddlniaklcaaGreatDoor.Ev
