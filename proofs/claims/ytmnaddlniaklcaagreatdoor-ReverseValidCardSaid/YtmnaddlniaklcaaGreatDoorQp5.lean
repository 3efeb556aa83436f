/- A quick interpreter for the kernel: proofs, fifth part: guards; regions in the order of their text. -/
import Derived.Test.YtmnaddlniaklcaaGreatDoorQp4
namespace Go.Proofs.YtmnaddlniaklcaaGreatDoor.Ev
open Go
set_option linter.unusedSimpArgs false

def Wants (ops : Array Oper) (o : Oper) (f : Fm) (b : Bool) : Prop := ∀ (η : Env) (A : Array Value), RA η f.tr A → Region.wanted o (yielded ops A) = b
theorem wants_of {ops : Array Oper} {o : Oper} {f : Fm} {b : Bool} (h : evGuard ops o f.tr = some b) : Wants ops o f b := fun _ _ ra => evGuard_ok h ra
theorem RA.restr {η : Env} {tm : Tr V} {A : Array Value} (h : RA η tm A) (l : List Tmp) : RA η (restrT tm l) A := fun t v hv => by
  rw [get_restrT] at hv
  by_cases e : t ∈ l
  · rw [if_pos e] at hv; exact h t v hv
  · rw [if_neg e] at hv; cases hv

def GStep (P : Program) (ops : Array Oper) (o : Oper) (f : Fm) (H : Tr AObj) (nx : Nat) (k : KK) (r : RR) : Prop :=
  (Wants ops o f true ∧ Done P o f H nx k r) ∨ (Wants ops o f false ∧ r = k (f.setO o.dst (.v V.undef)) H nx) ∨ r = .no

theorem OpOk.weaken {P : Program} {o : Oper} {tm tm' : Tr V} {H : Tr AObj} {nx : Nat} {v : V} {H' : Tr AObj} {nx' : Nat} (h : OpOk P o tm H nx v H' nx') (hra : ∀ η A, RA η tm' A → RA η tm A) : OpOk P o tm' H nx v H' nx' :=
  ⟨h.1, fun η hp w A ro n K Q p ra hg hk => h.2 η hp w A ro n K Q p (hra _ _ ra) hg hk⟩

theorem backK_some {o : Oper} {f : Fm} {k : KK} {v : V} {H : Tr AObj} {nx : Nat} : backK (dstOf o.dst) f k (some (v, H, nx)) = k (f.setO o.dst (FV.ofV v)) H nx := by
  show (forceH H fun H' => forceN nx fun nx' => FV.orK (FV.ofV v) (fun x => (dstOf o.dst).putK x f fun fr' => k fr' H' nx') .no) = _
  rw [forceH_eq, forceN_eq, orK_some (FV.toV_ofV v), putK_eq]

theorem slow_step {P : Program} (hN : NoNum P) {Q : QF} {m : Nat} (hQ : QOk P Q m) (ops : Array Oper) (o : Oper) (f : Fm) (H : Tr AObj) (nx : Nat) (k : KK) : GStep P ops o f H nx k (slowK Q P ops f H nx k o) := by
  unfold slowK
  rw [restrF_eq]
  cases hg : gen1v Q.f P ops o (restrT f.tr (o.looksAt ops)) H nx with
  | none => exact .inr (.inr rfl)
  | some r =>
    obtain ⟨v, H', nx'⟩ := r
    rw [backK_some]
    unfold gen1v at hg
    split at hg
    · rename_i hgd
      refine .inl ⟨fun η A ra => evGuard_ok hgd (ra.restr _), FV.ofV v, H', nx', ?_, rfl⟩
      have hok : OpOk P o (restrT f.tr (o.looksAt ops)) H nx v H' nx' := by
        cases hc : isCall o.op with
        | true => rw [hc] at hg; exact opOk_big hN hQ.f.ops hg
        | false => rw [hc] at hg; exact opOk_small hg
      exact (hok.weaken (fun η A ra => ra.restr _)).toQ (FV.toV_ofV v)
    · rename_i hgd
      cases hg
      exact .inr (.inl ⟨fun η A ra => evGuard_ok hgd (ra.restr _), rfl⟩)
    · cases hg

theorem gd_step {P : Program} (hN : NoNum P) {Q : QF} {m : Nat} (hQ : QOk P Q m) (ops : Array Oper) (o : Oper) (f : Fm) (H : Tr AObj) (nx : Nat) (k : KK) : GStep P ops o f H nx k (run1 (gd P ops o) Q P f H nx k (slowK Q P ops f H nx k)) := by
  have gen := slow_step hN hQ ops o f H nx k
  have step := run1_step hN hQ o f H nx k (slowK Q P ops f H nx k)
  unfold gd
  split
  · rename_i hg
    rcases step with h | h | h
    · exact .inl ⟨wants_of (by simp [evGuard, hg]), h⟩
    · rw [h]; exact gen
    · exact .inr (.inr h)
  · rename_i j want hg
    split
    · rename_i oj hj
      split
      · rename_i d hd
        show GStep P ops o f H nx k (gdK ((opdT d).get f) want (run1 (cl P o) Q P f H nx k (slowK Q P ops f H nx k)) (skipQ (dstOf o.dst) f H nx k))
        have hu : ((opdT d).get f).toV = f.tr.get d := (Fm.get_tr f d).symm
        have hskip : skipQ (dstOf o.dst) f H nx k = k (f.setO o.dst (.v V.undef)) H nx := putK_eq o.dst (.v V.undef) f (fun fr' => k fr' H nx)
        generalize (opdT d).get f = u at hu
        have hgd : ∀ r, (match f.tr.get d with | some (.c false [.bool b]) => some (b == want) | some (.tup _) => some false | _ => none) = some r → evGuard ops o f.tr = some r := by
          intro r hr
          simp only [evGuard, hg, hj, hd]; exact hr
        cases u <;> try exact .inr (.inr rfl)
        · rename_i x
          simp only [FV.toV] at hu
          rw [← hu] at hgd
          cases x <;> cases want
          · rcases step with h | h | h
            · exact .inl ⟨wants_of (hgd true rfl), h⟩
            · show GStep P ops o f H nx k (run1 (cl P o) Q P f H nx k (slowK Q P ops f H nx k)); rw [h]; exact gen
            · exact .inr (.inr h)
          · exact .inr (.inl ⟨wants_of (hgd false rfl), hskip⟩)
          · exact .inr (.inl ⟨wants_of (hgd false rfl), hskip⟩)
          · rcases step with h | h | h
            · exact .inl ⟨wants_of (hgd true rfl), h⟩
            · show GStep P ops o f H nx k (run1 (cl P o) Q P f H nx k (slowK Q P ops f H nx k)); rw [h]; exact gen
            · exact .inr (.inr h)
        · rename_i x
          simp only [FV.toV] at hu
          rw [← hu] at hgd
          cases x with
          | c g l => exact .inr (.inr rfl)
          | tup l => exact .inr (.inl ⟨wants_of (hgd false rfl), hskip⟩)
      · exact gen
    · exact gen

theorem put_size (A : Act) (d : Option Tmp) (cv : Value) : (A.put d cv).tmps.size = A.tmps.size ∧ (A.put d cv).defers = A.defers := by
  cases d <;> simp [Act.put]

/-- A region in the order of its text. -/
theorem qOps_ok {P : Program} (hN : NoNum P) {Q : QF} {m : Nat} (hQ : QOk P Q m) {ops : Array Oper} {b : Nat} : ∀ (l : List Oper) (f : Fm) (H : Tr AObj) (nx : Nat) (f' : Fm) (H' : Tr AObj) (nx' : Nat), qOps (gds P ops l) Q P ops f H nx = .ok f' H' nx' → dstsLt b l = true →
    Dm H.get H'.get nx nx' ∧ ∀ (η : Env) (h : Hp) (w : World) (A : Act) (ro : Option Nat) (n : Nat) (R : Exit → Act → World → Prop), Pre η h w H.get nx nx' → RA η f.tr A.tmps → b ≤ A.tmps.size → η.glob P →
      (∀ η' w' A', Stp η h w H.get H'.get nx nx' η' w' → RA η' f'.tr A'.tmps → A'.tmps.size = A.tmps.size → A'.defers = A.defers → R .normal A' w') → wpListIn (fe ro) n P ops R l A w := by
  intro l
  induction l with
  | nil =>
    intro f H nx f' H' nx' he _
    have he : RR.ok f H nx = .ok f' H' nx' := he
    cases he
    exact ⟨Dm.refl _ _, fun η h w A ro n R p ra hb hg hR => hR η w A (Stp.refl p.ext p.rh) ra rfl rfl⟩
  | cons o l ih =>
    intro f H nx f' H' nx' he hlt
    have he : run1 (gd P ops o) Q P f H nx (qOps (gds P ops l) Q P ops) (slowK Q P ops f H nx (qOps (gds P ops l) Q P ops)) = .ok f' H' nx' := he
    have hdst : dstLt b o.dst = true := by
      simp only [dstsLt] at hlt
      split at hlt
      · assumption
      · cases hlt
    have hlt' : dstsLt b l = true := by
      simp only [dstsLt] at hlt
      split at hlt
      · exact hlt
      · cases hlt
    have hdt : ∀ t, o.dst = some t → t < b := fun t ht => by rw [ht] at hdst; exact blt_lt hdst
    have step := gd_step hN hQ ops o f H nx (qOps (gds P ops l) Q P ops)
    rw [he] at step
    rcases step with ⟨hw, fv, H1, nx1, hok, hr⟩ | ⟨hw, hr⟩ | hr
    · obtain ⟨d1, h1⟩ := hok
      obtain ⟨d2, h2⟩ := ih _ _ _ _ _ _ hr.symm hlt'
      refine ⟨d1.trans d2, fun η h w A ro n R p ra hb hg hR => ?_⟩
      unfold wpListIn
      rw [hw η A.tmps ra, if_pos rfl]
      refine h1 η h w A ro n _ R (p.less d2.le) ra hg (fun cv w' η' hv hs => ?_)
      obtain ⟨hs1, hs2⟩ := put_size A o.dst cv
      have ra1 := (ra.mono hs.le).setO (d := o.dst) (fun t ht => Nat.lt_of_lt_of_le (hdt t ht) hb) hv
      refine h2 η' _ w' _ ro n R (p.next d1 hs) ra1 (by rw [hs1]; exact hb) (glob_mono hg hs.le) (fun η2 w2 A2 t2 ra2 hn2 hd2 => ?_)
      exact hR η2 w2 A2 (Stp.trans d1 d2 hs t2) ra2 (hn2.trans hs1) (hd2.trans hs2)
    · obtain ⟨d2, h2⟩ := ih _ _ _ _ _ _ hr.symm hlt'
      refine ⟨d2, fun η h w A ro n R p ra hb hg hR => ?_⟩
      unfold wpListIn
      rw [hw η A.tmps ra, if_neg (by simp)]
      refine ⟨fun _ _ => trivial, ?_⟩
      obtain ⟨hs1, hs2⟩ := put_size A o.dst Go.undef
      have ra1 := ra.setO (d := o.dst) (v := .v V.undef) (cv := Go.undef) (fun t ht => Nat.lt_of_lt_of_le (hdt t ht) hb) (fun x hx => by cases hx; rfl)
      exact h2 η h w _ ro n R p ra1 (by rw [hs1]; exact hb) hg (fun η2 w2 A2 t2 ra2 hn2 hd2 => hR η2 w2 A2 t2 ra2 (hn2.trans hs1) (hd2.trans hs2))
    · cases hr

end Go.Proofs.YtmnaddlniaklcaaGreatDoor.Ev
